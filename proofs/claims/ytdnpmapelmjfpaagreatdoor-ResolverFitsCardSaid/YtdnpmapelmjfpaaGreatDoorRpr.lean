/- Contracts of functions and plain lemmas that the proofs of this seat share (joined texts). No condition. -/
import Derived.Test.YtdnpmapelmjfpaaGreatDoorRwp
import Derived.Test.YtdnpmapelmjfpaaGreatDoorRg1
import Derived.Test.YtdnpmapelmjfpaaGreatDoorRj
import Derived.Test.YtdnpmapelmjfpaaGreatDoorRs
import Derived.Test.YtdnpmapelmjfpaaGreatDoorRu
import Derived.Test.YtdnpmapelmjfpaaGreatDoorRrz
import Derived.OpenShut
namespace Go.Proofs.YtdnpmapelmjfpaaGreatDoor
set_option linter.unusedSimpArgs false
set_option linter.unusedVariables false
structure ResR where
  code : Int
  ans : List SetD
  auth : List SetD
def thereB (L : List SetD) (n : List UInt8) (cls : Int) : Bool := L.any fun s => s.cls == cls && withinN s.name n
def rlookF (L : List SetD) (cls : Int) (R : FolR) : ResR :=
  if R.err = 0 then
    (if R.fin = [] then
      (if (soaFind L R.here cls).err = 0 then ⟨if thereB L R.here cls = true then 0 else 3, R.path, (soaFind L R.here cls).set.toList⟩ else ⟨2, [], []⟩)
     else ⟨0, R.path ++ R.fin, []⟩)
  else ⟨2, [], []⟩
def rlookOf (L : List SetD) (n : List UInt8) (ty cls : Int) : ResR := rlookF L cls (followOf n ty cls L)
def edSize (he : Bool) : EdD := ⟨if he = true then 4096 else 0, 0, 0, 0, []⟩
def resMsg (q : MsgD) (tc : Bool) (code : Int) (ans auth : List RecD) : MsgD := ⟨⟨q.hd.id, true, 0, false, tc, q.hd.rd, true, false, false, false, code⟩, q.qs, ans, auth, [], q.he, edSize q.he⟩
def resRoom (q : MsgD) : Int := if q.he = true ∧ 512 < q.ed.size then q.ed.size else 512
def resFull (q : MsgD) (R : ResR) : MsgD := resMsg q false R.code (R.ans.flatMap recsOf) (R.auth.flatMap recsOf)
def resCut (q : MsgD) (R : ResR) : MsgD := resMsg q true R.code [] []
def resBy (q : MsgD) (R : ResR) : List UInt8 :=
  if encErr (resFull q R) = 0 ∧ ((encOf (resFull q R)).length : Int) ≤ resRoom q then encOf (resFull q R) else encOf (resCut q R)
def resM (L : List SetD) (q : MsgD) : List UInt8 := match q.qs with
  | [x] => if q.hd.qr = false ∧ q.hd.op = 0 then resBy q (rlookOf L x.name x.typ x.cls) else []
  | _ => []
def resOf (L : List SetD) (d : List UInt8) : List UInt8 := match decR d with
  | .error _ => []
  | .ok q => resM L q
theorem edSize_ok (he : Bool) : (0 ≤ (edSize he).size ∧ (edSize he).size ≤ 65535) ∧ (edSize he).opts = [] := by cases he <;> exact ⟨by decide, rfl⟩
theorem resMsg_wf {q : MsgD} (hq : q.wf) (tc : Bool) {code : Int} (hc : 0 ≤ code) {ans auth : List RecD} (ha : ∀ r ∈ ans, r.wf) (hu : ∀ r ∈ auth, r.wf) : (resMsg q tc code ans auth).wf := by
  refine ⟨hq.id, ?_, hc, hq.qs, ha, hu, (by intro r hr; cases hr), (edSize_ok q.he).1, ?_, ?_, ?_, ?_⟩
  · exact Int.le_refl 0
  · exact ⟨by show (0 : Int) ≤ 0; omega, by show (0 : Int) ≤ 255; omega⟩
  · exact ⟨by show (0 : Int) ≤ 0; omega, by show (0 : Int) ≤ 255; omega⟩
  · exact ⟨by show (0 : Int) ≤ 0; omega, by show (0 : Int) ≤ 65535; omega⟩
  · show ∀ o ∈ (edSize q.he).opts, _; rw [(edSize_ok q.he).2]; intro o ho; cases ho
theorem resMsg_may {q : MsgD} {x : QD} (hx : q.qs = [x]) (hn : may x.name = true) (tc : Bool) {code : Int} (hc : code ≤ 15) {ans auth : List RecD} (ha : ∀ r ∈ ans, recOk7 r = true) (hu : ∀ r ∈ auth, recOk7 r = true) (h1 : ans.length ≤ 65535) (h2 : auth.length ≤ 65535) :
    mayM (resMsg q tc code ans auth) = true := by
  unfold resMsg mayM
  simp only [Bool.and_eq_true, decide_eq_true_eq, List.all_eq_true, Bool.or_eq_true]
  refine ⟨⟨⟨⟨⟨⟨?_, ?_⟩, ?_⟩, ?_⟩, ha⟩, hu⟩, by simp⟩
  · unfold hdOk; rw [decide_eq_true_eq]; dsimp only; omega
  · cases q.he
    · right; rfl
    · left; rfl
  · refine ⟨by rw [hx]; simp, h1, h2, ?_⟩
    dsimp only [List.length_nil]; split <;> omega
  · intro y hy; rw [hx, List.mem_singleton] at hy; subst hy; exact hn
theorem resCut_len {q : MsgD} {x : QD} (hx : q.qs = [x]) (hn : may x.name = true) (tc : Bool) (code : Int) : (bodyW (resMsg q tc code [] [])).1.length ≤ 282 := by
  unfold bodyW
  dsimp only
  simp only [List.length_append, head_len]
  have h1 : (seqW quW 12 (resMsg q tc code [] []).qs []).1.length ≤ 259 := by
    show (seqW quW 12 q.qs []).1.length ≤ 259
    rw [hx]
    simp only [seqW, quW, List.append_nil, List.length_append, two_len]
    have := putN_len true true 12 [] hn
    omega
  have h2 : ∀ p t, (seqW recW p ((resMsg q tc code [] []).ans ++ (resMsg q tc code [] []).auth ++ (resMsg q tc code [] []).extra) t).1.length = 0 := fun p t => by simp [resMsg, seqW]
  have h3 : (if (resMsg q tc code [] []).he = true then ednsW (resMsg q tc code [] []).ed else []).length ≤ 11 := by
    split
    · have : (resMsg q tc code [] []).ed.opts = [] := (edSize_ok q.he).2
      simp [ednsW, optW, this, two_len, four_len]
    · simp
  rw [h2]
  omega
theorem resCut_enc {q : MsgD} {x : QD} (hx : q.qs = [x]) (hn : may x.name = true) {code : Int} (hc : code ≤ 15) (tc : Bool) : encErr (resMsg q tc code [] []) = 0 ∧ (encOf (resMsg q tc code [] [])).length ≤ 282 := by
  have hm := resMsg_may hx hn tc hc (ans := []) (auth := []) (by simp) (by simp) (by simp) (by simp)
  have hl := resCut_len hx hn tc code
  have he : encErr (resMsg q tc code [] []) = 0 := by unfold encErr; rw [if_pos hm, if_neg (by omega)]
  exact ⟨he, by rw [(enc_may he).2.2]; exact hl⟩
structure ResOk (l : List RecD) (R : ResR) : Prop where
  code : R.code = 0 ∨ R.code = 2 ∨ R.code = 3
  ans : ∀ s ∈ R.ans, s ∈ groupR l
  auth : ∀ s ∈ R.auth, s ∈ groupR l
  alen : R.ans.length ≤ 9
  ulen : R.auth.length ≤ 1
theorem rlook_ok (l : List RecD) (n : List UInt8) (ty cls : Int) : ResOk l (rlookOf (groupR l) n ty cls) := by
  have h := follow_in (groupR l) n ty cls
  unfold rlookOf rlookF
  split
  · split
    · split
      · refine ⟨?_, h.path, fun s hs => ?_, by have := h.len; dsimp only; omega, ?_⟩
        · dsimp only; split
          · exact .inl rfl
          · exact .inr (.inr rfl)
        · rcases hs' : (soaFind (groupR l) (followOf n ty cls (groupR l)).here cls).set with _ | x
          · dsimp only at hs; rw [hs'] at hs; cases hs
          · dsimp only at hs
            rw [hs', Option.toList_some, List.mem_singleton] at hs
            subst hs; exact (soa_mem hs').1
        · dsimp only
          cases (soaFind (groupR l) (followOf n ty cls (groupR l)).here cls).set <;> simp
      · exact ⟨.inr (.inl rfl), by simp, by simp, by simp, by simp⟩
    · refine ⟨.inl rfl, fun s hs => ?_, by simp, ?_, by simp⟩
      · rcases List.mem_append.1 hs with h' | h'
        · exact h.path s h'
        · exact h.fin s h'
      · have h1 := h.len; have h2 := h.one
        dsimp only; rw [List.length_append]; omega
  · exact ⟨.inr (.inl rfl), by simp, by simp, by simp, by simp⟩
theorem group_wf {l : List RecD} (hw : ∀ r ∈ l, r.wf) {s : SetD} (hs : s ∈ groupR l) : s.wfT ∧ 0 ≤ s.ttl ∧ s.ttl ≤ 2147483647 := by
  obtain ⟨h1, h2⟩ := (group_mem l s).1 hs
  obtain ⟨x, hx⟩ := List.exists_mem_of_ne_nil _ h1
  obtain ⟨a, _, b⟩ := mem_ofK.1 hx
  have e1 : x.typ = s.typ := congrArg (fun K : KeyD => K.2.1) b
  have e2 : x.cls = s.cls := congrArg (fun K : KeyD => K.2.2) b
  have hx' := hw x a
  refine ⟨⟨e1 ▸ hx'.1, e2 ▸ hx'.2.1⟩, ?_, (group_ttl hs).2⟩
  rw [(group_ttl hs).1]
  rcases minT_in (ofK l (keyT s)) with h | ⟨y, hy, h⟩
  · rw [h]; decide
  · rw [h]
    exact (timeT_bd (hw y (mem_ofK.1 hy).1).2.2.1).1
theorem recs_wfR {l : List RecD} (hw : ∀ r ∈ l, r.wf) {L : List SetD} (h : ∀ s ∈ L, s ∈ groupR l) : ∀ r ∈ L.flatMap recsOf, r.wf := fun r hr => by
  obtain ⟨s, hs, hr⟩ := List.mem_flatMap.1 hr
  unfold recsOf at hr
  obtain ⟨d, hd, rfl⟩ := List.mem_map.1 hr
  obtain ⟨h1, h2, h3⟩ := group_wf hw (h s hs)
  exact ⟨h1.1, h1.2, h2, by dsimp only; omega⟩
theorem recs_lenR (n : Nat) : ∀ (L : List SetD), (∀ s ∈ L, s.data.length ≤ n) → (L.flatMap recsOf).length ≤ L.length * n
  | [], _ => by simp
  | s :: L, h => by
    rw [List.flatMap_cons, List.length_append, List.length_cons, Nat.succ_mul]
    have h1 := recs_lenR n L fun t ht => h t (List.mem_cons_of_mem _ ht)
    have h2 := h s List.mem_cons_self
    have h3 : (recsOf s).length = s.data.length := by unfold recsOf; rw [List.length_map]
    omega
theorem room_min (q : MsgD) : 512 ≤ resRoom q := by unfold resRoom; split <;> omega
theorem res_read {l : List RecD} (hw : ∀ r ∈ l, r.wf) {q : MsgD} (hq : q.wf) {x : QD} (hx : q.qs = [x]) (hn : may x.name = true) {R : ResR} (hR : ResOk l R) :
    (resBy q R = encOf (resFull q R) ∧ encErr (resFull q R) = 0 ∧ ((encOf (resFull q R)).length : Int) ≤ resRoom q ∧ decR (resBy q R) = .ok (resFull q R)) ∨
    (resBy q R = encOf (resCut q R) ∧ ¬ (encErr (resFull q R) = 0 ∧ ((encOf (resFull q R)).length : Int) ≤ resRoom q) ∧ encErr (resCut q R) = 0 ∧ (encOf (resCut q R)).length ≤ 282 ∧ decR (resBy q R) = .ok (resCut q R)) := by
  have hc0 : 0 ≤ R.code ∧ R.code ≤ 15 := by rcases hR.code with h | h | h <;> rw [h] <;> decide
  by_cases h : encErr (resFull q R) = 0 ∧ ((encOf (resFull q R)).length : Int) ≤ resRoom q
  · left
    have e : resBy q R = encOf (resFull q R) := by unfold resBy; rw [if_pos h]
    rw [e]
    exact ⟨rfl, h.1, h.2, dec_enc (resMsg_wf hq false hc0.1 (recs_wfR hw hR.ans) (recs_wfR hw hR.auth)) h.1⟩
  · right
    have e : resBy q R = encOf (resCut q R) := by unfold resBy; rw [if_neg h]
    rw [e]
    have hb := resCut_enc hx hn hc0.2 true
    exact ⟨rfl, h, hb.1, hb.2, dec_enc (resMsg_wf hq true hc0.1 (by simp) (by simp)) hb.1⟩
theorem follow_fold (n : List UInt8) (ty cls : Int) (L : List SetD) : followOf (fold n) ty cls L = followOf n ty cls L := by
  unfold followOf
  by_cases h : may n = true
  · have h1 := fold_may h
    have e : fold (fold n) = fold n := by rw [fold_of_may h1.1, h1.2]
    rw [if_pos h, if_pos h1.1, e]
  · have e : fold n = [] := by unfold fold; rw [if_neg h]
    rw [e, if_neg h, may_nil]; rfl
theorem rlook_fold (n : List UInt8) (ty cls : Int) (L : List SetD) : rlookOf L (fold n) ty cls = rlookOf L n ty cls := by
  unfold rlookOf; rw [follow_fold]
def foldQ (q : MsgD) : MsgD := { q with qs := q.qs.map fun x => ⟨fold x.name, x.typ, x.cls⟩ }
theorem foldQ_wf {q : MsgD} (h : q.wf) : (foldQ q).wf := ⟨h.id, h.op, h.code, fun y hy => by
  obtain ⟨x, hx, rfl⟩ := List.mem_map.1 hy
  exact h.qs x hx, h.ans, h.auth, h.extra, h.size, h.ext, h.ver, h.flags, h.opts⟩
theorem may_qs {m : MsgD} (h : mayM m = true) : ∀ x ∈ m.qs, may x.name = true := by
  unfold mayM at h
  simp only [Bool.and_eq_true, List.all_eq_true] at h
  exact h.1.1.1.2
theorem foldQ_may {q : MsgD} (h : mayM q = true) : mayM (foldQ q) = true := by
  have hq := may_qs h
  unfold mayM foldQ at *
  simp only [Bool.and_eq_true, List.all_eq_true, List.length_map, List.mem_map, forall_exists_index, and_imp, forall_apply_eq_imp_iff₂] at h ⊢
  exact ⟨⟨⟨⟨h.1.1.1.1, fun x hx => (fold_may (hq x hx)).1⟩, h.1.1.2⟩, h.1.2⟩, h.2⟩
end Go.Proofs.YtdnpmapelmjfpaaGreatDoor
namespace Go.Proofs.YtdnpmapelmjfpaaGreatDoor
set_option linter.unusedSimpArgs false
set_option linter.unusedVariables false
set_option maxRecDepth 100000
def zone30 : List RecD := [⟨[3, 119, 119, 119, 2, 101, 120, 0], 5, 1, 9, [1, 97, 2, 101, 120, 0]⟩, ⟨[1, 97, 2, 101, 120, 0], 1, 1, 5, [10, 0, 0, 1]⟩, ⟨[2, 101, 120, 0], 6, 1, 7, [0, 0, 0, 0, 0, 0, 0, 0, 0, 0, 0, 0, 0, 0, 0, 0, 0, 0, 0, 0, 0, 3]⟩]
def ask30 (n : List UInt8) : List UInt8 := [0, 7, 1, 0, 0, 1, 0, 0, 0, 0, 0, 0] ++ n ++ [0, 1] ++ [0, 1]
theorem zone30_ok : zone30.all okRec = true := by kernel_rfl
theorem res30a : resOf (groupR zone30) (ask30 [3, 119, 119, 119, 2, 101, 120, 0]) = [0, 7, 129, 128, 0, 1, 0, 2, 0, 0, 0, 0, 3, 119, 119, 119, 2, 101, 120, 0, 0, 1, 0, 1, 192, 12, 0, 5, 0, 1, 0, 0, 0, 9, 0, 4, 1, 97, 192, 16, 192, 36, 0, 1, 0, 1, 0, 0, 0, 5, 0, 4, 10, 0, 0, 1] := by kernel_rfl
theorem res30b : resOf (groupR zone30) (ask30 [1, 98, 2, 101, 120, 0]) = [0, 7, 129, 131, 0, 1, 0, 0, 0, 1, 0, 0, 1, 98, 2, 101, 120, 0, 0, 1, 0, 1, 192, 14, 0, 6, 0, 1, 0, 0, 0, 7, 0, 22, 0, 0, 0, 0, 0, 0, 0, 0, 0, 0, 0, 0, 0, 0, 0, 0, 0, 0, 0, 0, 0, 3] := by kernel_rfl
theorem zone30_bd : RecsBd zone30 := ⟨by decide, by decide⟩
theorem zone30_wf : ∀ r ∈ zone30, r.wf := by
  intro r hr
  simp only [zone30, List.mem_cons, List.not_mem_nil, or_false] at hr
  rcases hr with rfl | rfl | rfl <;> exact ⟨by decide, by decide, by decide⟩
theorem recsOk_wf {l : List RecD} (h : ∀ r ∈ l, r.wf) : RecsOk l := fun r hr => ⟨(h r hr).1, (h r hr).2.1⟩
end Go.Proofs.YtdnpmapelmjfpaaGreatDoor
