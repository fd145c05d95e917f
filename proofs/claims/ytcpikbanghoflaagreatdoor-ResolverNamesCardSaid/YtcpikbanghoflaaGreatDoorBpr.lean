/- Contracts of functions and plain lemmas that the proofs of this seat share (joined texts). No condition. -/
import Derived.Test.YtcpikbanghoflaaGreatDoorBwp
import Derived.Test.YtcpikbanghoflaaGreatDoorBg1
import Derived.Test.YtcpikbanghoflaaGreatDoorBj
import Derived.Test.YtcpikbanghoflaaGreatDoorBs
import Derived.Test.YtcpikbanghoflaaGreatDoorBu
import Derived.Test.YtcpikbanghoflaaGreatDoorBrz
import Derived.OpenShut
namespace Go.Proofs.YtcpikbanghoflaaGreatDoor
set_option linter.unusedSimpArgs false
set_option linter.unusedVariables false

structure ResR where
  code : Int
  ans : List SetD
  auth : List SetD
/-- Is a set of a class at a name, or within it? -/
def thereB (L : List SetD) (n : List UInt8) (cls : Int) : Bool := L.any fun s => s.cls == cls && withinN s.name n
def rlookF (L : List SetD) (cls : Int) (R : FolR) : ResR :=
  if R.err = 0 then
    (if R.fin = [] then
      (if (soaFind L R.here cls).err = 0 then ⟨if thereB L R.here cls = true then 0 else 3, R.path, (soaFind L R.here cls).set.toList⟩ else ⟨2, [], []⟩)
     else ⟨0, R.path ++ R.fin, []⟩)
  else ⟨2, [], []⟩
/-- What answers a question. -/
def rlookOf (L : List SetD) (n : List UInt8) (ty cls : Int) : ResR := rlookF L cls (followOf n ty cls L)
def edSize (he : Bool) : EdD := ⟨if he = true then 4096 else 0, 0, 0, 0, []⟩
def resMsg (q : MsgD) (tc : Bool) (code : Int) (ans auth : List RecD) : MsgD := ⟨⟨q.hd.id, true, 0, false, tc, q.hd.rd, true, false, false, false, code⟩, q.qs, ans, auth, [], q.he, edSize q.he⟩
def resRoom (q : MsgD) : Int := if q.he = true ∧ 512 < q.ed.size then q.ed.size else 512
def resFull (q : MsgD) (R : ResR) : MsgD := resMsg q false R.code (R.ans.flatMap recsOf) (R.auth.flatMap recsOf)
def resCut (q : MsgD) (R : ResR) : MsgD := resMsg q true R.code [] []
def resBy (q : MsgD) (R : ResR) : List UInt8 :=
  if encErr (resFull q R) = 0 ∧ ((encOf (resFull q R)).length : Int) ≤ resRoom q then encOf (resFull q R) else encOf (resCut q R)
def resM (L : List SetD) (q : MsgD) : List UInt8 := match q.qs with
  | [x] => if q.hd.qr = false ∧ q.hd.op = 0 then resBy q (rlookOf L x.name x.typ x.cls) else []
  | _ => []
/-- The bytes of the reply to bytes; none if they are no query. -/
def resOf (L : List SetD) (d : List UInt8) : List UInt8 := match decR d with
  | .error _ => []
  | .ok q => resM L q

/- Other classes. -/
def onCls (L : List SetD) (c : Int) : List SetD := L.filter fun s => s.cls == c
theorem find_cls (L : List SetD) (n : List UInt8) (k c : Int) : findS (onCls L c) n k c = findS L n k c := by
  unfold findS onCls
  induction L with
  | nil => rfl
  | cons s L ih =>
    by_cases h : (s.cls == c) = true
    · rw [List.filter_cons_of_pos (by exact h), List.find?_cons, List.find?_cons, ih]
    · have h2 : hitS n k c s = false := by unfold hitS; simp only [Bool.not_eq_true] at h; rw [h]; simp
      rw [List.filter_cons_of_neg (by exact h), ih, List.find?_cons, h2]
theorem followF_congr {l m : List SetD} {cls : Int} (h : ∀ x k, findS l x k cls = findS m x k cls) (ty : Int) :
    ∀ (n : Nat) (here : List UInt8) (seen : List (List UInt8)) (path : List SetD), followF l ty cls n here seen path = followF m ty cls n here seen path
  | 0, _, _, _ => rfl
  | n + 1, here, seen, path => by
    have ih := followF_congr h ty n
    simp only [followF, h, ih]
theorem followOf_congr {l m : List SetD} {cls : Int} (h : ∀ x k, findS l x k cls = findS m x k cls) (n : List UInt8) (ty : Int) : followOf n ty cls l = followOf n ty cls m := by
  unfold followOf
  rw [followF_congr h]
def bestS (n : List UInt8) (cls : Int) (b : Option SetD) (s : SetD) : Option SetD := match b with
  | none => if fitsB n cls s then some s else none
  | some x => if fitsB n cls s && decide (labN x.name < labN s.name) then some s else some x
theorem bestTo_fold (l : List SetD) (n : List UInt8) (cls : Int) : ∀ k, k ≤ l.length → (bestTo l n cls k).map Prod.snd = (l.take k).foldl (bestS n cls) none
  | 0, _ => rfl
  | k + 1, hk => by
    have h : k < l.length := by omega
    have ih := bestTo_fold l n cls k (by omega)
    rw [List.take_succ_eq_append_getElem h, List.foldl_append, ← ih]
    conv => lhs; unfold bestTo
    rw [List.getElem?_eq_getElem h]
    rcases bestTo l n cls k with _ | b
    · dsimp only [Option.map_none, List.foldl_cons, List.foldl_nil, bestS]
      split <;> rfl
    · dsimp only [Option.map_some, List.foldl_cons, List.foldl_nil, bestS]
      split <;> rfl
def soaS (b : Option SetD) : SoaR := match b with
  | none => ⟨none, 0⟩
  | some s => if s.data.length = 1 then ⟨some s, 0⟩ else ⟨none, 3⟩
theorem soaFind_fold (l : List SetD) (n : List UInt8) (cls : Int) : soaFind l n cls = soaS (l.foldl (bestS n cls) none) := by
  have h := bestTo_fold l n cls l.length (Nat.le_refl _)
  rw [List.take_length] at h
  unfold soaFind
  rw [← h]
  rcases bestTo l n cls l.length with _ | ⟨j, s⟩ <;> rfl
theorem bestS_off {n : List UInt8} {cls : Int} (b : Option SetD) {s : SetD} (h : fitsB n cls s = false) : bestS n cls b s = b := by
  unfold bestS
  cases b <;> simp [h]
theorem soa_cls (L : List SetD) (n : List UInt8) (c : Int) : soaFind (onCls L c) n c = soaFind L n c := by
  rw [soaFind_fold, soaFind_fold]
  congr 1
  unfold onCls
  generalize (none : Option SetD) = b
  induction L generalizing b with
  | nil => rfl
  | cons s L ih =>
    by_cases h : (s.cls == c) = true
    · rw [List.filter_cons_of_pos (by exact h), List.foldl_cons, List.foldl_cons]; exact ih _
    · have h2 : fitsB n c s = false := by unfold fitsB; simp only [Bool.not_eq_true] at h; rw [h]; simp
      rw [List.filter_cons_of_neg (by exact h), List.foldl_cons, bestS_off b h2]; exact ih _
theorem there_cls (L : List SetD) (n : List UInt8) (c : Int) : thereB (onCls L c) n c = thereB L n c := by
  unfold thereB onCls
  induction L with
  | nil => rfl
  | cons s L ih =>
    by_cases h : (s.cls == c) = true
    · rw [List.filter_cons_of_pos (by exact h), List.any_cons, List.any_cons, ih]
    · rw [List.filter_cons_of_neg (by exact h), List.any_cons, ih]; simp only [Bool.not_eq_true] at h; rw [h]; simp
theorem rlook_cls (L : List SetD) (n : List UInt8) (ty c : Int) : rlookOf (onCls L c) n ty c = rlookOf L n ty c := by
  unfold rlookOf rlookF
  rw [followOf_congr (fun x k => find_cls L x k c) n ty]
  simp only [soa_cls, there_cls]
theorem ofK_append (l m : List RecD) (K : KeyD) : ofK (l ++ m) K = ofK l K ++ ofK m K := by unfold ofK; rw [List.filter_append]
theorem group_cls {l more : List RecD} {c : Int} (h : ∀ r ∈ more, r.cls ≠ c) : onCls (groupR (l ++ more)) c = onCls (groupR l) c := by
  refine rise_ext ((group_rise _).filter _) ((group_rise _).filter _) fun x => ?_
  unfold onCls
  rw [List.mem_filter, List.mem_filter]
  refine and_congr_left fun hx => ?_
  have hk : ofK (l ++ more) (keyT x) = ofK l (keyT x) := by
    rw [ofK_append]
    have : ofK more (keyT x) = [] := by
      rw [List.eq_nil_iff_forall_not_mem]
      intro r hr
      obtain ⟨h1, _, h2⟩ := mem_ofK.1 hr
      have h3 : r.cls = x.cls := congrArg (fun K : KeyD => K.2.2) h2
      exact h r h1 (h3.trans (by simpa using hx))
    rw [this, List.append_nil]
  rw [group_mem, group_mem, hk]
  unfold setK
  rw [hk]
theorem res_class {l more : List RecD} {q : MsgD} {c : Int} (hq : ∀ x ∈ q.qs, x.cls = c) (h : ∀ r ∈ more, r.cls ≠ c) : resM (groupR (l ++ more)) q = resM (groupR l) q := by
  unfold resM
  rcases hqs : q.qs with _ | ⟨x, _ | ⟨y, r⟩⟩
  · rfl
  · have hx : x.cls = c := hq x (by rw [hqs]; simp)
    dsimp only
    rw [hx, ← rlook_cls (groupR (l ++ more)), group_cls h, rlook_cls]
  · rfl

/- Records turned about and folded, and the records again. -/
def foldRc (x : RecD) : RecD := ⟨fold x.name, x.typ, x.cls, x.ttl, rfold x.typ x.data⟩
def foldOc (x : RecD) : RecD := if okRec x = true then foldRc x else x
theorem foldO_same (x : RecD) : okRec (foldOc x) = okRec x ∧ recK (foldOc x) = recK x ∧ (foldOc x).ttl = x.ttl ∧ rfold (foldOc x).typ (foldOc x).data = rfold x.typ x.data := by
  unfold foldOc
  split
  · rename_i h
    have h' := h
    unfold okRec at h'
    simp only [Bool.and_eq_true] at h'
    have h1 := fold_may h'.1
    have h2 := rfold_idem h'.2
    have e : fold (fold x.name) = fold x.name := by
      rw [fold_of_may h'.1, fold_of_may (by rw [may_low]; exact h'.1), low_low]
    refine ⟨?_, ?_, rfl, h2.2⟩
    · rw [h]; unfold okRec foldRc; rw [fold_of_may h'.1, may_low, h'.1, h2.1]; rfl
    · unfold recK foldRc; rw [e]
  · exact ⟨rfl, rfl, rfl, rfl⟩
theorem foldO_idem (x : RecD) : foldOc (foldOc x) = foldOc x := by
  have h := foldO_same x
  by_cases hx : okRec x = true
  · have e : foldOc x = foldRc x := by unfold foldOc; rw [if_pos hx]
    rw [e] at h ⊢
    unfold foldOc
    rw [if_pos (h.1.trans hx)]
    have h1 : fold (fold x.name) = fold x.name := congrArg (fun K : KeyD => K.1) h.2.1
    show (⟨fold (fold x.name), x.typ, x.cls, x.ttl, rfold x.typ (rfold x.typ x.data)⟩ : RecD) = ⟨fold x.name, x.typ, x.cls, x.ttl, rfold x.typ x.data⟩
    rw [h1]
    exact congrArg (RecD.mk _ _ _ _) h.2.2.2
  · have e : foldOc x = x := by unfold foldOc; rw [if_neg hx]
    rw [e, e]
theorem group_folds {l m : List RecD} (hm : ∀ x, x ∈ m ↔ x ∈ l) (hok : ∀ r ∈ l, okRec r = true) : groupR (m.map foldRc ++ l) = groupR l := by
  have e : m.map foldRc = m.map foldOc := List.map_congr_left fun x hx => by unfold foldOc; rw [if_pos (hok x ((hm x).1 hx))]
  rw [e, ← group_map foldO_same, List.map_append, List.map_map]
  have e2 : foldOc ∘ foldOc = foldOc := funext foldO_idem
  rw [e2, ← List.map_append, group_map foldO_same]
  refine group_set fun x => ?_
  rw [List.mem_append, hm, or_self]
end Go.Proofs.YtcpikbanghoflaaGreatDoor
namespace Go.Proofs.YtcpikbanghoflaaGreatDoor
set_option linter.unusedSimpArgs false
set_option linter.unusedVariables false

theorem edSize_ok (he : Bool) : (0 ≤ (edSize he).size ∧ (edSize he).size ≤ 65535) ∧ (edSize he).opts = [] := by cases he <;> exact ⟨by decide, rfl⟩
theorem resMsg_wf {q : MsgD} (hq : q.wf) (tc : Bool) {code : Int} (hc : 0 ≤ code) {ans auth : List RecD} (ha : ∀ r ∈ ans, r.wf) (hu : ∀ r ∈ auth, r.wf) : (resMsg q tc code ans auth).wf := by
  refine ⟨hq.id, ?_, hc, hq.qs, ha, hu, (by intro r hr; cases hr), (edSize_ok q.he).1, ?_, ?_, ?_, ?_⟩
  · exact Int.le_refl 0
  · exact ⟨by show (0 : Int) ≤ 0; omega, by show (0 : Int) ≤ 255; omega⟩
  · exact ⟨by show (0 : Int) ≤ 0; omega, by show (0 : Int) ≤ 255; omega⟩
  · exact ⟨by show (0 : Int) ≤ 0; omega, by show (0 : Int) ≤ 65535; omega⟩
  · show ∀ o ∈ (edSize q.he).opts, _; rw [(edSize_ok q.he).2]; intro o ho; cases ho
theorem resMsg_may {q : MsgD} {x : QD} (hx : q.qs = [x]) (hn : may x.name = true) (tc : Bool) {code : Int} (hc : code ≤ 15) {ans auth : List RecD} (ha : ∀ r ∈ ans, recOk7 r = true) (hu : ∀ r ∈ auth, recOk7 r = true) (h1 : ans.length ≤ 65535) (h2 : auth.length ≤ 65535) :
    mayM (resMsg q tc code ans auth) = true := by
  unfold resMsg mayM
  simp only [Bool.and_eq_true, decide_eq_true_eq, List.all_eq_true, Bool.or_eq_true]
  refine ⟨⟨⟨⟨⟨⟨?_, ?_⟩, ?_⟩, ?_⟩, ha⟩, hu⟩, by simp⟩
  · unfold hdOk; rw [decide_eq_true_eq]; dsimp only; omega
  · cases q.he
    · right; rfl
    · left; rfl
  · refine ⟨by rw [hx]; simp, h1, h2, ?_⟩
    dsimp only [List.length_nil]; split <;> omega
  · intro y hy; rw [hx, List.mem_singleton] at hy; subst hy; exact hn
theorem resCut_len {q : MsgD} {x : QD} (hx : q.qs = [x]) (hn : may x.name = true) (tc : Bool) (code : Int) : (bodyW (resMsg q tc code [] [])).1.length ≤ 282 := by
  unfold bodyW
  dsimp only
  simp only [List.length_append, head_len]
  have h1 : (seqW quW 12 (resMsg q tc code [] []).qs []).1.length ≤ 259 := by
    show (seqW quW 12 q.qs []).1.length ≤ 259
    rw [hx]
    simp only [seqW, quW, List.append_nil, List.length_append, two_len]
    have := putN_len true true 12 [] hn
    omega
  have h2 : ∀ p t, (seqW recW p ((resMsg q tc code [] []).ans ++ (resMsg q tc code [] []).auth ++ (resMsg q tc code [] []).extra) t).1.length = 0 := fun p t => by simp [resMsg, seqW]
  have h3 : (if (resMsg q tc code [] []).he = true then ednsW (resMsg q tc code [] []).ed else []).length ≤ 11 := by
    split
    · have : (resMsg q tc code [] []).ed.opts = [] := (edSize_ok q.he).2
      simp [ednsW, optW, this, two_len, four_len]
    · simp
  rw [h2]
  omega
theorem resCut_enc {q : MsgD} {x : QD} (hx : q.qs = [x]) (hn : may x.name = true) {code : Int} (hc : code ≤ 15) (tc : Bool) : encErr (resMsg q tc code [] []) = 0 ∧ (encOf (resMsg q tc code [] [])).length ≤ 282 := by
  have hm := resMsg_may hx hn tc hc (ans := []) (auth := []) (by simp) (by simp) (by simp) (by simp)
  have hl := resCut_len hx hn tc code
  have he : encErr (resMsg q tc code [] []) = 0 := by unfold encErr; rw [if_pos hm, if_neg (by omega)]
  exact ⟨he, by rw [(enc_may he).2.2]; exact hl⟩
/-- What a list of sets out of records keeps. -/
structure ResOk (l : List RecD) (R : ResR) : Prop where
  code : R.code = 0 ∨ R.code = 2 ∨ R.code = 3
  ans : ∀ s ∈ R.ans, s ∈ groupR l
  auth : ∀ s ∈ R.auth, s ∈ groupR l
  alen : R.ans.length ≤ 9
  ulen : R.auth.length ≤ 1
theorem rlook_ok (l : List RecD) (n : List UInt8) (ty cls : Int) : ResOk l (rlookOf (groupR l) n ty cls) := by
  have h := follow_in (groupR l) n ty cls
  unfold rlookOf rlookF
  split
  · split
    · split
      · refine ⟨?_, h.path, fun s hs => ?_, by have := h.len; dsimp only; omega, ?_⟩
        · dsimp only; split
          · exact .inl rfl
          · exact .inr (.inr rfl)
        · rcases hs' : (soaFind (groupR l) (followOf n ty cls (groupR l)).here cls).set with _ | x
          · dsimp only at hs; rw [hs'] at hs; cases hs
          · dsimp only at hs
            rw [hs', Option.toList_some, List.mem_singleton] at hs
            subst hs; exact (soa_mem hs').1
        · dsimp only
          cases (soaFind (groupR l) (followOf n ty cls (groupR l)).here cls).set <;> simp
      · exact ⟨.inr (.inl rfl), by simp, by simp, by simp, by simp⟩
    · refine ⟨.inl rfl, fun s hs => ?_, by simp, ?_, by simp⟩
      · rcases List.mem_append.1 hs with h' | h'
        · exact h.path s h'
        · exact h.fin s h'
      · have h1 := h.len; have h2 := h.one
        dsimp only; rw [List.length_append]; omega
  · exact ⟨.inr (.inl rfl), by simp, by simp, by simp, by simp⟩
theorem recs_okR {l : List RecD} {L : List SetD} (h : ∀ s ∈ L, s ∈ groupR l) : ∀ r ∈ L.flatMap recsOf, recOk7 r = true := fun r hr => by
  obtain ⟨s, hs, hr⟩ := List.mem_flatMap.1 hr
  unfold recsOf at hr
  obtain ⟨d, hd, rfl⟩ := List.mem_map.1 hr
  rw [rec_ok]
  dsimp only
  rw [(group_name (h s hs)).1, (group_folded (h s hs) hd).1]; rfl
theorem group_wf {l : List RecD} (hw : ∀ r ∈ l, r.wf) {s : SetD} (hs : s ∈ groupR l) : s.wfT ∧ 0 ≤ s.ttl ∧ s.ttl ≤ 2147483647 := by
  obtain ⟨h1, h2⟩ := (group_mem l s).1 hs
  obtain ⟨x, hx⟩ := List.exists_mem_of_ne_nil _ h1
  obtain ⟨a, _, b⟩ := mem_ofK.1 hx
  have e1 : x.typ = s.typ := congrArg (fun K : KeyD => K.2.1) b
  have e2 : x.cls = s.cls := congrArg (fun K : KeyD => K.2.2) b
  have hx' := hw x a
  refine ⟨⟨e1 ▸ hx'.1, e2 ▸ hx'.2.1⟩, ?_, (group_ttl hs).2⟩
  rw [(group_ttl hs).1]
  rcases minT_in (ofK l (keyT s)) with h | ⟨y, hy, h⟩
  · rw [h]; decide
  · rw [h]
    exact (timeT_bd (hw y (mem_ofK.1 hy).1).2.2.1).1
theorem recs_wfR {l : List RecD} (hw : ∀ r ∈ l, r.wf) {L : List SetD} (h : ∀ s ∈ L, s ∈ groupR l) : ∀ r ∈ L.flatMap recsOf, r.wf := fun r hr => by
  obtain ⟨s, hs, hr⟩ := List.mem_flatMap.1 hr
  unfold recsOf at hr
  obtain ⟨d, hd, rfl⟩ := List.mem_map.1 hr
  obtain ⟨h1, h2, h3⟩ := group_wf hw (h s hs)
  exact ⟨h1.1, h1.2, h2, by dsimp only; omega⟩
theorem recs_lenR (n : Nat) : ∀ (L : List SetD), (∀ s ∈ L, s.data.length ≤ n) → (L.flatMap recsOf).length ≤ L.length * n
  | [], _ => by simp
  | s :: L, h => by
    rw [List.flatMap_cons, List.length_append, List.length_cons, Nat.succ_mul]
    have h1 := recs_lenR n L fun t ht => h t (List.mem_cons_of_mem _ ht)
    have h2 := h s List.mem_cons_self
    have h3 : (recsOf s).length = s.data.length := by unfold recsOf; rw [List.length_map]
    omega
theorem room_min (q : MsgD) : 512 ≤ resRoom q := by unfold resRoom; split <;> omega
/-- What a reply is read as. -/
theorem res_read {l : List RecD} (hw : ∀ r ∈ l, r.wf) {q : MsgD} (hq : q.wf) {x : QD} (hx : q.qs = [x]) (hn : may x.name = true) {R : ResR} (hR : ResOk l R) :
    (resBy q R = encOf (resFull q R) ∧ encErr (resFull q R) = 0 ∧ ((encOf (resFull q R)).length : Int) ≤ resRoom q ∧ decR (resBy q R) = .ok (resFull q R)) ∨
    (resBy q R = encOf (resCut q R) ∧ ¬ (encErr (resFull q R) = 0 ∧ ((encOf (resFull q R)).length : Int) ≤ resRoom q) ∧ encErr (resCut q R) = 0 ∧ (encOf (resCut q R)).length ≤ 282 ∧ decR (resBy q R) = .ok (resCut q R)) := by
  have hc0 : 0 ≤ R.code ∧ R.code ≤ 15 := by rcases hR.code with h | h | h <;> rw [h] <;> decide
  by_cases h : encErr (resFull q R) = 0 ∧ ((encOf (resFull q R)).length : Int) ≤ resRoom q
  · left
    have e : resBy q R = encOf (resFull q R) := by unfold resBy; rw [if_pos h]
    rw [e]
    exact ⟨rfl, h.1, h.2, dec_enc (resMsg_wf hq false hc0.1 (recs_wfR hw hR.ans) (recs_wfR hw hR.auth)) h.1⟩
  · right
    have e : resBy q R = encOf (resCut q R) := by unfold resBy; rw [if_neg h]
    rw [e]
    have hb := resCut_enc hx hn hc0.2 true
    exact ⟨rfl, h, hb.1, hb.2, dec_enc (resMsg_wf hq true hc0.1 (by simp) (by simp)) hb.1⟩
end Go.Proofs.YtcpikbanghoflaaGreatDoor
namespace Go.Proofs.YtcpikbanghoflaaGreatDoor
set_option linter.unusedSimpArgs false
set_option linter.unusedVariables false

theorem sufL_low : ∀ (a b : List (List UInt8)), sufL (a.map low) b = sufL a b
  | [], b => rfl
  | x :: r, b => by
    rw [List.map_cons, sufL, sufL, sufL_low r b]
    have : (low x :: r.map low).map low = (x :: r).map low := by simp [low_low]
    rw [this]
theorem within_fold {n : List UInt8} (z : List UInt8) (h : may n = true) : withinN (fold n) z = withinN n z := by
  rw [fold_of_may h]
  unfold withinN
  rw [labelsOf_low]
  rcases labelsOf n with _ | a
  · rfl
  · rcases labelsOf z with _ | b
    · rfl
    · exact sufL_low a _
theorem follow_fold (n : List UInt8) (ty cls : Int) (L : List SetD) : followOf (fold n) ty cls L = followOf n ty cls L := by
  unfold followOf
  by_cases h : may n = true
  · have h1 := fold_may h
    have e : fold (fold n) = fold n := by rw [fold_of_may h1.1, h1.2]
    rw [if_pos h, if_pos h1.1, e]
  · have e : fold n = [] := by unfold fold; rw [if_neg h]
    rw [e, if_neg h, may_nil]; rfl
theorem rlook_fold (n : List UInt8) (ty cls : Int) (L : List SetD) : rlookOf L (fold n) ty cls = rlookOf L n ty cls := by
  unfold rlookOf; rw [follow_fold]
def hereR (n : List UInt8) (cls : Int) (r : RecD) : Bool := r.cls == cls && withinN r.name n
theorem there_group {l : List RecD} (hok : ∀ r ∈ l, okRec r = true) (n : List UInt8) (cls : Int) : thereB (groupR l) n cls = l.any (hereR n cls) := by
  rw [Bool.eq_iff_iff]
  unfold thereB hereR
  rw [List.any_eq_true, List.any_eq_true]
  constructor
  · rintro ⟨s, hs, h⟩
    obtain ⟨h1, h2⟩ := (group_mem l s).1 hs
    obtain ⟨x, hx⟩ := List.exists_mem_of_ne_nil _ h1
    obtain ⟨a, b, c⟩ := mem_ofK.1 hx
    have e1 : fold x.name = s.name := congrArg (fun K : KeyD => K.1) c
    have e2 : x.cls = s.cls := congrArg (fun K : KeyD => K.2.2) c
    refine ⟨x, a, ?_⟩
    have hb := b
    unfold okRec at hb
    simp only [Bool.and_eq_true] at hb
    rw [e2, ← within_fold n hb.1, e1]; exact h
  · rintro ⟨r, hr, h⟩
    have hne : ofK l (recK r) ≠ [] := List.ne_nil_of_mem (mem_ofK.2 ⟨hr, hok r hr, rfl⟩)
    refine ⟨setK l (recK r), (group_mem l _).2 ⟨hne, rfl⟩, ?_⟩
    have hb := hok r hr
    unfold okRec at hb
    simp only [Bool.and_eq_true] at hb
    show (r.cls == cls && withinN (fold r.name) n) = true
    rw [within_fold n hb.1]; exact h
/-- Is nothing there? -/
def goneB (l : List RecD) (n : List UInt8) (ty cls code : Int) : Bool :=
  (followOf n ty cls (groupR l)).err == 0 && ((followOf n ty cls (groupR l)).fin.isEmpty && (code != 2 && !(l.any (hereR (followOf n ty cls (groupR l)).here cls))))
theorem gone_code {l : List RecD} (hok : ∀ r ∈ l, okRec r = true) (n : List UInt8) (ty cls : Int) :
    ((rlookOf (groupR l) n ty cls).code == 3) = goneB l n ty cls (rlookOf (groupR l) n ty cls).code := by
  unfold goneB
  rw [← there_group hok]
  unfold rlookOf rlookF
  generalize followOf n ty cls (groupR l) = F
  by_cases h0 : F.err = 0
  · rw [if_pos h0, h0]
    rcases hf : F.fin with _ | ⟨a, r⟩
    · rw [if_pos rfl]
      split
      · dsimp only
        cases thereB (groupR l) F.here cls <;> rfl
      · rfl
    · rw [if_neg (by simp)]; rfl
  · rw [if_neg h0]
    have : (F.err == 0) = false := by simpa using h0
    rw [this]; rfl
theorem way_fin {l : List SetD} {cls : Int} : ∀ {path : List SetD} {here : List UInt8} {seen : List (List UInt8)} {at_ : List UInt8}, Way l cls here seen path at_ → (path = [] ∧ here = at_) ∨ (path ≠ [] ∧ seen.contains at_ = false)
  | [], _, _, _, h => .inl ⟨rfl, h⟩
  | a :: rest, here, seen, at_, h => by
    obtain ⟨_, _, d, _, hd, hw⟩ := h
    refine .inr ⟨by simp, ?_⟩
    rcases way_fin hw with ⟨_, e⟩ | ⟨_, e⟩
    · rw [← e]; exact hd
    · simp only [List.contains_eq_mem, decide_eq_false_iff_not, List.mem_append, not_or] at e ⊢
      exact e.1
theorem follow_moved {l : List RecD} (hw : ∀ r ∈ l, r.wf) {n : List UInt8} {ty cls : Int} (h : (followOf n ty cls (groupR l)).err = 0) :
    (followOf n ty cls (groupR l)).path = [] ↔ fold n = (followOf n ty cls (groupR l)).here := by
  have hW := (follow_way n ty cls l (fun r hr => ⟨(hw r hr).1, (hw r hr).2.1⟩) h).2
  rcases way_fin hW with ⟨h1, h2⟩ | ⟨h1, h2⟩
  · exact ⟨fun _ => h2, fun _ => h1⟩
  · refine ⟨fun e => absurd e h1, fun e => ?_⟩
    rw [← e] at h2
    simp at h2
theorem recsS_nil {l : List RecD} {L : List SetD} (h : ∀ s ∈ L, s ∈ groupR l) : L.flatMap recsOf = [] ↔ L = [] := by
  constructor
  · intro e
    rcases L with _ | ⟨s, L⟩
    · rfl
    · rw [List.flatMap_cons, List.append_eq_nil_iff] at e
      have := group_some (h s List.mem_cons_self)
      unfold recsOf at e
      rw [List.map_eq_nil_iff] at e
      exact absurd e.1 this
  · rintro rfl; rfl
/-- Where nothing is there, are there answers just if the name is another one. -/
theorem gone_moved {l : List RecD} (hw : ∀ r ∈ l, r.wf) {n : List UInt8} {ty cls : Int} (h : (rlookOf (groupR l) n ty cls).code = 3) :
    ((rlookOf (groupR l) n ty cls).ans.flatMap recsOf = [] ↔ fold n = (followOf n ty cls (groupR l)).here) := by
  rw [recsS_nil (rlook_ok l n ty cls).ans]
  have e : (followOf n ty cls (groupR l)).err = 0 ∧ (rlookOf (groupR l) n ty cls).ans = (followOf n ty cls (groupR l)).path := by
    unfold rlookOf rlookF at h ⊢
    split at h
    · rename_i h0
      split at h
      · rename_i h1
        split at h
        · rename_i h2
          exact ⟨h0, by rw [if_pos h0, if_pos h1, if_pos h2]⟩
        · cases h
      · cases h
    · cases h
  rw [e.2]
  exact follow_moved hw e.1
/-- A query with its question's name folded. -/
def foldQ (q : MsgD) : MsgD := { q with qs := q.qs.map fun x => ⟨fold x.name, x.typ, x.cls⟩ }
theorem foldQ_wf {q : MsgD} (h : q.wf) : (foldQ q).wf := ⟨h.id, h.op, h.code, fun y hy => by
  obtain ⟨x, hx, rfl⟩ := List.mem_map.1 hy
  exact h.qs x hx, h.ans, h.auth, h.extra, h.size, h.ext, h.ver, h.flags, h.opts⟩
theorem may_qs {m : MsgD} (h : mayM m = true) : ∀ x ∈ m.qs, may x.name = true := by
  unfold mayM at h
  simp only [Bool.and_eq_true, List.all_eq_true] at h
  exact h.1.1.1.2
theorem foldQ_may {q : MsgD} (h : mayM q = true) : mayM (foldQ q) = true := by
  have hq := may_qs h
  unfold mayM foldQ at *
  simp only [Bool.and_eq_true, List.all_eq_true, List.length_map, List.mem_map, forall_exists_index, and_imp, forall_apply_eq_imp_iff₂] at h ⊢
  exact ⟨⟨⟨⟨h.1.1.1.1, fun x hx => (fold_may (hq x hx)).1⟩, h.1.1.2⟩, h.1.2⟩, h.2⟩
theorem foldQ_err {q : MsgD} (h : encErr q = 0) : encErr (foldQ q) = 0 ∨ encErr (foldQ q) = 5 := may_err (foldQ_may (enc_may h).1)
end Go.Proofs.YtcpikbanghoflaaGreatDoor
namespace Go.Proofs.YtcpikbanghoflaaGreatDoor
set_option linter.unusedSimpArgs false
set_option linter.unusedVariables false
set_option maxRecDepth 100000

def zone30 : List RecD := [⟨[3, 119, 119, 119, 2, 101, 120, 0], 5, 1, 9, [1, 97, 2, 101, 120, 0]⟩, ⟨[1, 97, 2, 101, 120, 0], 1, 1, 5, [10, 0, 0, 1]⟩, ⟨[2, 101, 120, 0], 6, 1, 7, [0, 0, 0, 0, 0, 0, 0, 0, 0, 0, 0, 0, 0, 0, 0, 0, 0, 0, 0, 0, 0, 3]⟩]
def ask30 (n : List UInt8) : List UInt8 := [0, 7, 1, 0, 0, 1, 0, 0, 0, 0, 0, 0] ++ n ++ [0, 1] ++ [0, 1]
theorem zone30_ok : zone30.all okRec = true := by kernel_rfl
theorem res30a : resOf (groupR zone30) (ask30 [3, 119, 119, 119, 2, 101, 120, 0]) = [0, 7, 129, 128, 0, 1, 0, 2, 0, 0, 0, 0, 3, 119, 119, 119, 2, 101, 120, 0, 0, 1, 0, 1, 192, 12, 0, 5, 0, 1, 0, 0, 0, 9, 0, 4, 1, 97, 192, 16, 192, 36, 0, 1, 0, 1, 0, 0, 0, 5, 0, 4, 10, 0, 0, 1] := by kernel_rfl
theorem res30b : resOf (groupR zone30) (ask30 [1, 98, 2, 101, 120, 0]) = [0, 7, 129, 131, 0, 1, 0, 0, 0, 1, 0, 0, 1, 98, 2, 101, 120, 0, 0, 1, 0, 1, 192, 14, 0, 6, 0, 1, 0, 0, 0, 7, 0, 22, 0, 0, 0, 0, 0, 0, 0, 0, 0, 0, 0, 0, 0, 0, 0, 0, 0, 0, 0, 0, 0, 3] := by kernel_rfl
theorem zone30_bd : RecsBd zone30 := ⟨by decide, by decide⟩
theorem zone30_wf : ∀ r ∈ zone30, r.wf := by
  intro r hr
  simp only [zone30, List.mem_cons, List.not_mem_nil, or_false] at hr
  rcases hr with rfl | rfl | rfl <;> exact ⟨by decide, by decide, by decide⟩
theorem recsOk_wf {l : List RecD} (h : ∀ r ∈ l, r.wf) : RecsOk l := fun r hr => ⟨(h r hr).1, (h r hr).2.1⟩
end Go.Proofs.YtcpikbanghoflaaGreatDoor
