/- Contracts of functions and plain lemmas that the proofs of this seat share (joined texts). No condition. -/
import Derived.Test.YtjmfpillnbnofaaDoorBwp
import Derived.Test.YtjmfpillnbnofaaDoorBg
import Derived.Test.YtjmfpillnbnofaaDoorBry
import Derived.Test.YtjmfpillnbnofaaDoorBd
import Derived.Test.YtjmfpillnbnofaaDoorBht
import Derived.Deep.RegionHeld3
import Derived.OpenShut
namespace Go.Proofs.YtjmfpillnbnofaaDoor
set_option linter.unusedSimpArgs false
set_option linter.unusedVariables false

def codeOf (c : CameD) (code size : Int) : List UInt8 :=
  if (c.kind = 2 ∨ c.kind = 3) ∧ (512 ≤ size ∧ size ≤ 4096) ∧ (0 ≤ code ∧ code ≤ 4095) ∧ (code ≤ 15 ∨ c.hasE = true) then encOf (blankOf c code size) else []
/-- A record for each datum of each set. -/
def recsT (l : List SetD) (ttl : Int) : List RecD := l.flatMap fun s => s.data.map fun d => ⟨s.name, s.typ, s.cls, ttl, d⟩
def fullOf (c : CameD) (code : Int) (sets soa : List SetD) (ttl size : Int) : MsgD := { blankOf c code size with ans := recsT sets ttl, auth := recsT soa ttl }
def cutOf (c : CameD) (code size : Int) : MsgD := { blankOf c code size with hd := { (blankOf c code size).hd with tc := true } }
def roomy (c : CameD) (code : Int) (sets soa : List SetD) (ttl size : Int) : Prop := encErr (fullOf c code sets soa ttl size) = 0 ∧ ((bodyW (fullOf c code sets soa ttl size)).1.length : Int) ≤ roomOf c size
instance (c : CameD) (code : Int) (sets soa : List SetD) (ttl size : Int) : Decidable (roomy c code sets soa ttl size) := inferInstanceAs (Decidable (_ ∧ _))
def ansMay (c : CameD) (code : Int) (sets soa : List SetD) (ttl size : Int) : Prop := c.kind = 3 ∧ (512 ≤ size ∧ size ≤ 4096) ∧ (code = 0 ∨ code = 3) ∧ ttl ≤ 2147483647
instance (c : CameD) (code : Int) (sets soa : List SetD) (ttl size : Int) : Decidable (ansMay c code sets soa ttl size) := inferInstanceAs (Decidable (_ ∧ _))
def ansOf (c : CameD) (code : Int) (sets soa : List SetD) (ttl size : Int) : List UInt8 :=
  if ansMay c code sets soa ttl size ∧ mayM (fullOf c code sets soa ttl size) = true then
    (if roomy c code sets soa ttl size then encOf (fullOf c code sets soa ttl size) else encOf (cutOf c code size))
  else []
theorem enc_ne {m : MsgD} (h : encErr m = 0) : encOf m ≠ [] := fun e => by have := (enc_id h).1; rw [e] at this; simp at this
theorem may_err {m : MsgD} (h : mayM m = true) : encErr m = 0 ∨ encErr m = 5 := by
  unfold encErr; rw [if_pos h]; split <;> simp
def SetD.wfT (s : SetD) : Prop := (0 ≤ s.typ ∧ s.typ ≤ 65535) ∧ (0 ≤ s.cls ∧ s.cls ≤ 65535)
theorem recsT_wf {l : List SetD} {ttl : Int} (h : ∀ s ∈ l, s.wfT) (ht : 0 ≤ ttl ∧ ttl ≤ 4294967295) : ∀ r ∈ recsT l ttl, r.wf := fun r hr => by
  unfold recsT at hr
  obtain ⟨s, hs, hr⟩ := List.mem_flatMap.1 hr
  obtain ⟨d, hd, rfl⟩ := List.mem_map.1 hr
  exact ⟨(h s hs).1, (h s hs).2, ht⟩
/-- What an answer by a verdict is read as. -/
theorem ans_read {d : List UInt8} {c : CameD} (hc : LookOk d c) {code : Int} {sets soa : List SetD} {ttl size : Int} (h1 : ∀ s ∈ sets, s.wfT) (h2 : ∀ s ∈ soa, s.wfT) (ht : 0 ≤ ttl ∧ ttl ≤ 4294967295)
    (h : ansOf c code sets soa ttl size ≠ []) :
    (ansMay c code sets soa ttl size ∧ mayM (fullOf c code sets soa ttl size) = true) ∧
    ((roomy c code sets soa ttl size ∧ ansOf c code sets soa ttl size = encOf (fullOf c code sets soa ttl size) ∧ decR (ansOf c code sets soa ttl size) = .ok (fullOf c code sets soa ttl size) ∧ ((ansOf c code sets soa ttl size).length : Int) ≤ roomOf c size) ∨
     (¬ roomy c code sets soa ttl size ∧ ansOf c code sets soa ttl size = encOf (cutOf c code size) ∧ decR (ansOf c code sets soa ttl size) = .ok (cutOf c code size) ∧ ((ansOf c code sets soa ttl size).length : Int) ≤ 282)) := by
  have hg : ansMay c code sets soa ttl size ∧ mayM (fullOf c code sets soa ttl size) = true := by
    unfold ansOf at h
    split at h
    · assumption
    · exact absurd rfl h
  refine ⟨hg, ?_⟩
  have hbw := blank_wf hc.wf code size
  unfold ansOf
  rw [if_pos hg]
  by_cases hr : roomy c code sets soa ttl size
  · rw [if_pos hr]
    have hw : (fullOf c code sets soa ttl size).wf := ⟨hbw.id, hbw.op, hbw.code, hbw.qs, recsT_wf h1 ht, recsT_wf h2 ht, hbw.extra, hbw.size, hbw.ext, hbw.ver, hbw.flags, hbw.opts⟩
    have hd := dec_enc hw hr.1
    exact .inl ⟨hr, rfl, hd, by rw [(enc_may hr.1).2.2]; exact hr.2⟩
  · rw [if_neg hr]
    obtain ⟨a1, a2, a3⟩ := hc.asks hg.1.1
    have hb := blank_enc code size (c := c) (by omega) hc.q true
    have hw : (cutOf c code size).wf := ⟨hbw.id, hbw.op, hbw.code, hbw.qs, hbw.ans, hbw.auth, hbw.extra, hbw.size, hbw.ext, hbw.ver, hbw.flags, hbw.opts⟩
    exact .inr ⟨hr, rfl, dec_enc hw hb.1, by unfold cutOf; omega⟩
theorem room_le (c : CameD) (size : Int) : 512 ≤ roomOf c size := by unfold roomOf; split <;> omega
theorem room_mono (c : CameD) {a b : Int} (h : a ≤ b) : roomOf c a ≤ roomOf c b := by
  unfold roomOf
  cases c.hasE
  · simp
  · simp only [true_and]
    split <;> split <;> omega
/-- AnswerFits: the reply by a code. -/
theorem code_fits {d : List UInt8} {c : CameD} (hc : LookOk d c) (hk : c.kind ≠ 1) {k n : Int} (hn : 512 ≤ n ∧ n ≤ 4096) (hkc : (0 ≤ k ∧ k ≤ 15) ∨ (c.kind = 2 ∧ k = c.code)) (ho : c.hd.op ≤ 15) :
    codeOf c k n = encOf (blankOf c k n) ∧ decR (codeOf c k n) = .ok (blankOf c k n) ∧ 2 ≤ (codeOf c k n).length ∧ ((codeOf c k n).length : Int) ≤ roomOf c n ∧ (codeOf c k n).take 2 = d.take 2 ∧
    (0 ≤ k ∧ k ≤ 16) ∧ (blankOf c k n).ed.ext * 16 + (blankOf c k n).hd.code = k ∧ 2 ≤ d.length := by
  obtain ⟨e1, e2⟩ := hc.hd hk
  have hk23 : c.kind = 2 ∨ c.kind = 3 := by rcases hc.kind with h | h | h <;> first | exact absurd h hk | exact .inl h | exact .inr h
  have hb := blank_enc k n ho hc.q false
  have heq : ({ blankOf c k n with hd := { (blankOf c k n).hd with tc := false } } : MsgD) = blankOf c k n := rfl
  rw [heq] at hb
  have hk16 : (0 ≤ k ∧ k ≤ 16) ∧ (k ≤ 15 ∨ c.hasE = true) := by
    rcases hkc with h | ⟨h, rfl⟩
    · omega
    · rcases hc.code h with h | h | h | ⟨h, he⟩
      · omega
      · omega
      · omega
      · exact ⟨by omega, .inr he⟩
  have hcode : codeOf c k n = encOf (blankOf c k n) := by
    unfold codeOf; rw [if_pos ⟨hk23, hn, by omega, hk16.2⟩]
  rw [hcode]
  have hid := enc_id hb.1
  have hr := room_le c n
  refine ⟨rfl, dec_enc (blank_wf hc.wf k n) hb.1, by omega, by omega, ?_, hk16.1, ?_, by omega⟩
  · rw [hid.2, data_id e2]
    show two c.hd.id.toNat = _
    rw [e1]
    show two ((n16 d 0 : Nat) : Int).toNat = _
    rw [Int.toNat_natCast]
  · unfold blankOf
    dsimp only
    cases he : c.hasE
    · have : k ≤ 15 := by rcases hk16.2 with h | h; exact h; rw [he] at h; cases h
      simp only [Bool.false_eq_true, if_false, edNone]; omega
    · simp only [if_true]; omega
/-- Other TTLs are as long. -/
theorem rec_ttl (pos : Nat) (r : RecD) (u : Int) (t : Tab) : (recW pos { r with ttl := u } t).1.length = (recW pos r t).1.length ∧ (recW pos { r with ttl := u } t).2 = (recW pos r t).2 := by
  unfold recW
  dsimp only
  exact ⟨by simp only [List.length_append, two_len, four_len], rfl⟩
theorem seq_ttl (u : Int) : ∀ (pos : Nat) (l : List RecD) (t : Tab), (seqW recW pos (l.map fun r => { r with ttl := u }) t).1.length = (seqW recW pos l t).1.length ∧ (seqW recW pos (l.map fun r => { r with ttl := u }) t).2 = (seqW recW pos l t).2
  | _, [], _ => ⟨rfl, rfl⟩
  | pos, r :: l, t => by
    obtain ⟨a1, a2⟩ := rec_ttl pos r u t
    simp only [List.map_cons, seqW]
    rw [a2, a1]
    obtain ⟨b1, b2⟩ := seq_ttl u (pos + (recW pos r t).1.length) l (recW pos r t).2
    refine ⟨?_, b2⟩
    rw [List.length_append, List.length_append, a1, b1]
theorem recsT_ttl (l : List SetD) (t u : Int) : recsT l u = (recsT l t).map fun r => { r with ttl := u } := by
  unfold recsT
  rw [List.map_flatMap]
  congr 1
  funext s
  rw [List.map_map]
  rfl
theorem full_ttl (c : CameD) (code : Int) (sets soa : List SetD) (t u size : Int) : mayM (fullOf c code sets soa u size) = mayM (fullOf c code sets soa t size) ∧ (bodyW (fullOf c code sets soa u size)).1.length = (bodyW (fullOf c code sets soa t size)).1.length := by
  unfold fullOf
  rw [recsT_ttl sets t u, recsT_ttl soa t u]
  generalize recsT sets t = a
  generalize recsT soa t = b
  refine ⟨?_, ?_⟩
  · unfold mayM
    dsimp only
    rw [List.all_map, List.all_map, List.length_map, List.length_map]
    rfl
  · unfold bodyW
    dsimp only
    have hx : (blankOf c code size).extra = [] := rfl
    rw [hx, List.append_nil, List.append_nil, ← List.map_append]
    simp only [List.length_append]
    rw [(seq_ttl u _ (a ++ b) _).1]
    simp only [headW, List.length_append, two_len]
theorem room_ttl (c : CameD) (code : Int) (sets soa : List SetD) (t u size : Int) : roomy c code sets soa u size ↔ roomy c code sets soa t size := by
  obtain ⟨h1, h2⟩ := full_ttl c code sets soa t u size
  unfold roomy encErr
  rw [h1, h2]
/-- TTLs of the sets count for nothing. -/
theorem recsT_sets (l : List SetD) (f : SetD → SetD) (h : ∀ s, f s = { s with ttl := (f s).ttl }) (t : Int) : recsT (l.map f) t = recsT l t := by
  unfold recsT
  rw [List.flatMap_map]
  congr 1
  funext s
  rw [h s]
/-- Another size of EDNS is as long. -/
theorem full_size (c : CameD) (code : Int) (sets soa : List SetD) (t a b : Int) : mayM (fullOf c code sets soa t b) = mayM (fullOf c code sets soa t a) ∧ (bodyW (fullOf c code sets soa t b)).1.length = (bodyW (fullOf c code sets soa t a)).1.length := by
  refine ⟨?_, ?_⟩
  · unfold fullOf blankOf mayM
    dsimp only
    cases c.hasE
    · rfl
    · simp
  · unfold bodyW
    dsimp only
    simp only [List.length_append]
    have h1 : (headW (fullOf c code sets soa t b)).length = (headW (fullOf c code sets soa t a)).length := by simp [headW, two_len]
    have h2 : ∀ s : Int, (if (fullOf c code sets soa t s).he = true then ednsW (fullOf c code sets soa t s).ed else []).length = if c.hasE = true then 11 else 0 := fun s => by
      unfold fullOf blankOf
      dsimp only
      split
      · simp [ednsW, optW, two_len, four_len]
      · rfl
    rw [h1, h2, h2]
    rfl
theorem room_more {c : CameD} {code : Int} {sets soa : List SetD} {t a b : Int} (h : a ≤ b) (hr : roomy c code sets soa t a) : roomy c code sets soa t b := by
  obtain ⟨h1, h2⟩ := full_size c code sets soa t a b
  unfold roomy encErr at hr ⊢
  rw [h1, h2]
  have := room_mono c h
  exact ⟨hr.1, by omega⟩
theorem rec_ok (r : RecD) : recOk7 r = (may r.name && rmay r.typ r.data) := by
  unfold recOk7
  by_cases h : r.typ = 41
  · have : rmay r.typ r.data = false := by rw [h]; rfl
    rw [this]; simp [h]
  · simp [h]
/-- AnswerRows: what may be. -/
theorem full_may {d : List UInt8} {c : CameD} (hc : LookOk d c) (code : Int) {sets soa : List SetD} (ttl size : Int) (hk : c.kind = 3) (h1 : (recsT sets ttl).length ≤ 65535) (h2 : (recsT soa ttl).length ≤ 65535) :
    mayM (fullOf c code sets soa ttl size) = ((recsT sets ttl).all (fun r => may r.name && rmay r.typ r.data) && (recsT soa ttl).all (fun r => may r.name && rmay r.typ r.data)) := by
  obtain ⟨a1, a2, a3⟩ := hc.asks hk
  have hb := blank_may (c := c) code size (by omega) hc.q
  unfold mayM at hb
  unfold fullOf mayM
  have e : recOk7 = fun r => may r.name && rmay r.typ r.data := funext rec_ok
  dsimp only
  simp only [Bool.and_eq_true, decide_eq_true_eq] at hb
  obtain ⟨⟨⟨⟨⟨⟨b1, b2⟩, b3, b4, b5, b6⟩, b7⟩, b8⟩, b9⟩, b10⟩ := hb
  rw [b1, b2, b7, b10, decide_eq_true (show _ ∧ _ from ⟨b3, h1, h2, b6⟩), e]
  simp
end Go.Proofs.YtjmfpillnbnofaaDoor
namespace Go.Proofs.YtjmfpillnbnofaaDoor
set_option linter.unusedSimpArgs false
set_option linter.unusedVariables false
open Go.RowKit
set_option maxRecDepth 100000

def sizedB (n : Int) : Bool := decide (512 ≤ n ∧ n ≤ 4096)
theorem ans_sized (n : Int) (w : World) : Calls Tryd.prog 10 #[.int .i64 n] w fun e w' => e = .returned (.bool (sizedB n)) ∧ w = w' := by
  by_cases h1 : 512 ≤ n
  · by_cases h2 : n ≤ 4096
    · have HF := Lib.hid (show sizedB n = true by unfold sizedB; rw [decide_eq_true_eq]; exact ⟨h1, h2⟩)
      go_enter Tryd.func10, Tryd.ntmps10
      go_wp2_with fail
      go_ret
      exact ⟨ret_bool HF.out.symm, rfl⟩
    · have HF := Lib.hid (show sizedB n = false by unfold sizedB; rw [decide_eq_false_iff_not]; omega)
      go_enter Tryd.func10, Tryd.ntmps10
      go_wp2_with fail
      go_ret
      exact ⟨ret_bool HF.out.symm, rfl⟩
  · have HF := Lib.hid (show sizedB n = false by unfold sizedB; rw [decide_eq_false_iff_not]; omega)
    go_enter Tryd.func10, Tryd.ntmps10
    go_wp2_with fail
    go_ret
    exact ⟨ret_bool HF.out.symm, rfl⟩
theorem recs_nil (w : World) : Recs w 0 (.slice none 0 0) [] := ⟨none, 0, rfl, Nat.le_refl _, Nat.zero_le _, ⟨rfl, fun h => absurd h (Nat.lt_irrefl _)⟩⟩
theorem opts_nil (w : World) : Opts w 0 (.slice none 0 0) [] := ⟨none, 0, rfl, Nat.le_refl _, Nat.zero_le _, ⟨rfl, fun h => absurd h (Nat.lt_irrefl _)⟩⟩
theorem blank_opts (c : CameD) (code size : Int) : (blankOf c code size).ed.opts = [] := by unfold blankOf edNone; dsimp only; split <;> rfl
theorem blank_qok (c : CameD) (code size : Int) (hn : c.q.name.length ≤ 1048576) : ∀ q ∈ (blankOf c code size).qs, q.name.length ≤ 1048576 := by
  unfold blankOf
  intro q hq
  dsimp only at hq
  split at hq
  · rw [List.mem_singleton] at hq; rw [hq]; exact hn
  · cases hq
theorem blank_msg7 {w : World} {c : CameD} {code size : Int} {q : Value} (h : Qus w 0 q (blankOf c code size).qs) (hn : c.q.name.length ≤ 1048576) : Msg7 w (blankOf c code size) q (.slice none 0 0) (.slice none 0 0) (.slice none 0 0) (.slice none 0 0) :=
  ⟨h, recs_nil w, recs_nil w, recs_nil w, by rw [blank_opts]; exact opts_nil w, blank_qok c code size hn, (fun r (hr : r ∈ ([] : List RecD)) => by cases hr), (fun r (hr : r ∈ ([] : List RecD)) => by cases hr), (fun r (hr : r ∈ ([] : List RecD)) => by cases hr), Nat.zero_le _⟩
def StrPost (s : List UInt8) (w : World) (e : Ending) (w' : World) : Prop := e = .returned (S s) ∧ Ext w w'
set_option maxHeartbeats 4000000 in
theorem ans_code (c : CameD) (code size : Int) (w : World) (hg : Laid w) (hb : BitsAt w) (hc : c.wf) (hn : c.q.name.length ≤ 1048576) :
    Calls Tryd.prog 8 #[caV c, .int .i64 code, .int .i64 size] w (StrPost (codeOf c code size) w) := by
  obtain ⟨R, hR⟩ : ∃ R, R = codeOf c code size := ⟨_, rfl⟩
  rw [← hR]
  unfold codeOf at hR
  obtain ⟨X0, hX0⟩ : ∃ X0, X0 = w.alloc (.cells (caRow c.kind c.code c.hd c.hasQ c.q c.hasE c.size) 29) := ⟨_, rfl⟩
  have hw0 : Ext w X0 := by rw [hX0]; exact (Ext.refl _).alloc _
  have r0 : X0.heap[w.heap.size]? = some (.cells (caRow c.kind c.code c.hd c.hasQ c.q c.hasE c.size) 29) := by rw [hX0]; exact heap_alloc_new _ _
  have z0 : X0.cell? ⟨w.heap.size, 0, none⟩ = some (.int .u8 c.kind) := box_cell r0 rfl
  have z17 : X0.cell? ⟨w.heap.size, 17, none⟩ = some (.bool c.hasE) := box_cell r0 rfl
  have L0 := row_all r0
  have HS := Lib.hid (fun V => ans_sized size V)
  have hcut : ((c.kind = 2 ∨ c.kind = 3) ∧ (512 ≤ size ∧ size ≤ 4096) ∧ (0 ≤ code ∧ code ≤ 4095) ∧ (code ≤ 15 ∨ c.hasE = true)) ∨ ¬ ((c.kind = 2 ∨ c.kind = 3) ∧ (512 ≤ size ∧ size ≤ 4096) ∧ (0 ≤ code ∧ code ≤ 4095) ∧ (code ≤ 15 ∨ c.hasE = true)) := Decidable.em _
  go_enter Tryd.func8, Tryd.ntmps8
  go_upto_region 1 with fail
  have hzz : w.alloc (.cells (caRow c.kind c.code c.hd c.hasQ c.q c.hasE c.size) 29) = X0 := hX0.symm
  rw [hzz]
  clear hzz hX0
  rcases hcut with hcut | hcut
  · rw [if_pos hcut] at hR
    obtain ⟨hk, hs, hcd, hh⟩ := hcut
    obtain ⟨cn, rfl⟩ : ∃ cn : Nat, code = cn := ⟨code.toNat, by omega⟩
    obtain ⟨sn, rfl⟩ : ∃ sn : Nat, size = sn := ⟨size.toNat, by omega⟩
    have HSz := Lib.hid (show sizedB (sn : Int) = true by unfold sizedB; rw [decide_eq_true_eq]; exact hs)
    rw [HSz.out] at HS
    have HB := Lib.hid (int_blank c cn sn X0 (by omega) (by omega))
    have HEn := Lib.hid (fun V q (hV : Ext w V) (h : Qus V 0 q (blankOf c cn sn).qs) => wire_encode (blankOf c cn sn) q (.slice none 0 0) (.slice none 0 0) (.slice none 0 0) (.slice none 0 0) V (hg.ext hV) (hb.ext hV) (blank_wf hc cn sn) (blank_msg7 h hn))
    obtain ⟨m, hm⟩ : ∃ m, m = blankOf c cn sn := ⟨_, rfl⟩
    rw [← hm] at HB HEn hR
    clear hm
    have HR := Lib.hid hR
    have hc1 : ¬ ((cn : Int) < 0) := by omega
    have hc2 : ¬ ((4095 : Int) < (cn : Int)) := by omega
    clear hR
    have k3 : ((c.kind != 2) = false) ∨ ((c.kind != 2) = true ∧ (c.kind != 3) = false) := by
      rcases hk with hk | hk
      · left; rw [hk]; rfl
      · right; rw [hk]; exact ⟨rfl, rfl⟩
    have k4 : (cn : Int) ≤ 15 ∨ (¬ ((cn : Int) ≤ 15) ∧ c.hasE = true) := by
      by_cases h : (cn : Int) ≤ 15
      · exact .inl h
      · rcases hh with hh | hh
        · exact absurd hh h
        · exact .inr ⟨h, hh⟩
    clear hk hh hs hcd
    have He : encErr (m) = 0 ∨ encErr (m) ≠ 0 := Decidable.em _
    rcases k3 with k3 | ⟨k3, k3'⟩ <;> rcases k4 with k4 | ⟨k4, k4'⟩
    all_goals
      go_upto_region 5 with (go_at_call 10; refine (HS.out _).mono ?_; rintro e w1 ⟨rfl, rfl⟩)
      (try clear k3')
      (try clear k4')
      clear k3 k4 hc1 hc2
      go_wp2_with (first
        | (refine wpList_load_part (by rfl) 29 (.tmp 3) rfl w.heap.size 0 rfl [.int .u8 c.kind, .int .i64 c.code, .int .u16 c.hd.id, .bool c.hd.qr, .int .u8 c.hd.op, .bool c.hd.aa, .bool c.hd.tc, .bool c.hd.rd, .bool c.hd.ra, .bool c.hd.z, .bool c.hd.ad, .bool c.hd.cd, .int .u8 c.hd.code, .bool c.hasQ, S c.q.name, .int .u16 c.q.typ, .int .u16 c.q.cls, .bool c.hasE, .int .i64 c.size] L0 _ Tryd.underlying29 rfl (by kernel_rfl) ?_)
        | fail)
      refine HB.out.mono ?_
      rintro e w2 ⟨q, rfl, hq, hE2⟩
      have hw2 := hw0.trans hE2
      have HE2 := Lib.hid (HEn.out w2 q hw2 hq)
      clear hq hE2
      unfold EncPost at HE2
      go_wp2_with fail
      refine HE2.out.mono ?_
      rintro e w3 ⟨rfl, hE3⟩
      rcases He with he | he
      · have hen := Lib.hid he
        rw [he]
        clear he
        go_wp2_with fail
        go_ret
        exact ⟨by rw [HR.out]; rfl, hw2.trans hE3⟩
      · have fe : ((encErr m : Int) == 0) = false := len_ne he
        have hnil := Lib.hid (show encOf m = [] by unfold encOf; rw [if_neg he])
        clear he
        go_wp2_with fail
        go_ret
        exact ⟨by rw [HR.out, hnil.out]; rfl, hw2.trans hE3⟩
  · rw [if_neg hcut] at hR
    have HR := Lib.hid hR
    clear hR
    by_cases hk : c.kind = 2 ∨ c.kind = 3
    · have k3 : ((c.kind != 2) = false) ∨ ((c.kind != 2) = true ∧ (c.kind != 3) = false) := by
        rcases hk with hk | hk
        · left; rw [hk]; rfl
        · right; rw [hk]; exact ⟨rfl, rfl⟩
      by_cases hs : 512 ≤ size ∧ size ≤ 4096
      · have HSz := Lib.hid (show sizedB size = true by unfold sizedB; rw [decide_eq_true_eq]; exact hs)
        rw [HSz.out] at HS
        have hcs : code < 0 ∨ (¬ code < 0 ∧ 4095 < code) ∨ (¬ code < 0 ∧ ¬ 4095 < code ∧ 15 < code ∧ c.hasE = false) := by
          by_cases h1 : code < 0
          · exact .inl h1
          · by_cases h2 : 4095 < code
            · exact .inr (.inl ⟨h1, h2⟩)
            · refine .inr (.inr ⟨h1, h2, ?_⟩)
              by_cases h3 : 15 < code
              · refine ⟨h3, ?_⟩
                rcases he : c.hasE with _ | _
                · rfl
                · exact absurd ⟨hk, hs, ⟨by omega, by omega⟩, .inr he⟩ hcut
              · exact absurd ⟨hk, hs, ⟨by omega, by omega⟩, .inl (by omega)⟩ hcut
        clear hk hs hcut
        rcases k3 with k3 | ⟨k3, k3'⟩ <;> rcases hcs with h1 | ⟨h1, h2⟩ | ⟨h1, h2, h3, h4⟩
        all_goals
          go_wp2_with (go_at_call 10; refine (HS.out _).mono ?_; rintro e w1 ⟨rfl, rfl⟩)
          go_ret
          exact ⟨by rw [HR.out]; rfl, hw0⟩
      · have HSz := Lib.hid (show sizedB size = false by unfold sizedB; rw [decide_eq_false_iff_not]; exact hs)
        rw [HSz.out] at HS
        clear hk hs hcut
        rcases k3 with k3 | ⟨k3, k3'⟩
        all_goals
          go_wp2_with (go_at_call 10; refine (HS.out _).mono ?_; rintro e w1 ⟨rfl, rfl⟩)
          go_ret
          exact ⟨by rw [HR.out]; rfl, hw0⟩
    · have f1 : (c.kind != 2) = true := by rw [bne_iff_ne]; exact fun h => hk (.inl h)
      have f2 : (c.kind != 3) = true := by rw [bne_iff_ne]; exact fun h => hk (.inr h)
      clear hk hcut
      go_wp2_with fail
      go_ret
      exact ⟨by rw [HR.out]; rfl, hw0⟩
end Go.Proofs.YtjmfpillnbnofaaDoor
namespace Go.Proofs.YtjmfpillnbnofaaDoor
set_option linter.unusedSimpArgs false
set_option linter.unusedVariables false
open Go.RowKit
set_option maxRecDepth 100000

def recs1 (s : SetD) (ttl : Int) (k : Nat) : List RecD := (s.data.take k).map fun d => ⟨s.name, s.typ, s.cls, ttl, d⟩
def AnsBd (l : List SetD) : Prop := l.length ≤ 1048576 ∧ ∀ s ∈ l, s.data.length ≤ 1048576
theorem recsT_len {l : List SetD} (ttl : Int) (h : ∀ s ∈ l, s.data.length ≤ 1048576) : (recsT l ttl).length ≤ l.length * 1048576 := by
  induction l with
  | nil => simp [recsT]
  | cons s l ih =>
    have h1 := h s (by simp)
    have h2 := ih (fun x hx => h x (by simp [hx]))
    simp only [recsT, List.flatMap_cons, List.length_append, List.length_map, List.length_cons, Nat.succ_mul] at h2 ⊢
    omega
theorem recsT_step (l : List SetD) (ttl : Int) (k : Nat) (s : SetD) (h : l[k]? = some s) : recsT (l.take (k + 1)) ttl = recsT (l.take k) ttl ++ recs1 s ttl s.data.length := by
  obtain ⟨hk, rfl⟩ := List.getElem?_eq_some_iff.1 h
  unfold recsT recs1
  rw [take_snoc l k hk, List.flatMap_append, List.take_length]
  simp only [List.flatMap_cons, List.flatMap_nil, List.append_nil]
theorem recs1_step (s : SetD) (ttl : Int) (k : Nat) (d : List UInt8) (h : s.data[k]? = some d) : recs1 s ttl (k + 1) = recs1 s ttl k ++ [⟨s.name, s.typ, s.cls, ttl, d⟩] := by
  obtain ⟨hk, rfl⟩ := List.getElem?_eq_some_iff.1 h
  unfold recs1
  rw [take_snoc s.data k hk, List.map_append]; rfl
def ORec7Post (l : List RecD) (w : World) (e : Ending) (w' : World) : Prop := ∃ v, e = .returned v ∧ ORec7 w' w.heap.size v l ∧ Ext w w'
structure ArInv (w : World) (acc : List RecD) (A : Option Addr) (c : Nat) (wr : World) : Prop where
  own : Own wr w.heap.size 75 5 A acc.length c (acc.flatMap recCells)
  ext : Ext w wr
set_option maxHeartbeats 4000000 in
theorem ans_records (v : Value) (l : List SetD) (ttl : Int) (w : World) (h : Sets w 0 v l) (hbd : AnsBd l) :
    Calls Tryd.prog 12 #[v, .int .u32 ttl] w (ORec7Post (recsT l ttl) w) := by
  obtain ⟨ps, sA, sc, hps, rfl, h1, h2, hrd, hst⟩ := h
  unfold maxLen at h2
  have hlen : l.length = ps.length := by rw [← hps]; simp
  obtain ⟨i0, hi0, hz0, hz1, hz2⟩ := info_parts info_rec7
  go_enter Tryd.func12, Tryd.ntmps12
  go_wp2_with fail
  go_loopw [5, 6, 7, 8, 11] (fun s5 _ _ _ s11 wr => ∃ (i : Nat) (A : Option Addr) (c : Nat), i ≤ ps.length ∧ s11 = .int .i64 i ∧ s5 = .slice A (recsT (l.take i) ttl).length c ∧ ArInv w (recsT (l.take i) ttl) A c wr) (fun _ _ _ _ s11 _ => ps.length - (intOf s11).toNat)
  case atStart => exact ⟨0, none, 0, Nat.zero_le _, rfl, rfl, ⟨Own.nil _ _ _ _, Ext.refl _⟩⟩
  case round =>
    obtain ⟨i, A, c, hi, rfl, rfl, hI⟩ := hrel
    obtain ⟨wo, rfl⟩ : ∃ wo : World, wo = wr := ⟨_, rfl⟩
    by_cases hlt : i < ps.length
    · obtain ⟨b, off, rfl, _, hbz, hc⟩ := (hrd.ext hI.ext).2 (by omega)
      have hp : ps[i]? = some ps[i] := List.getElem?_eq_getElem hlt
      obtain ⟨x0, x1, x2, x3, x4⟩ := sets_cells hc i ps[i] hp
      have hli : l[i]? = some ps[i].1 := by rw [← hps, List.getElem?_map, hp]; rfl
      have hsd := hst ps[i] (List.getElem_mem hlt)
      have hdb := hbd.2 ps[i].1 (by rw [← hps]; exact List.mem_map.2 ⟨ps[i], List.getElem_mem hlt, rfl⟩)
      generalize ps[i] = p at *
      obtain ⟨⟨nm, ty, cl, tt, da⟩, dv⟩ := p
      dsimp only at *
      obtain ⟨dA, dc, rfl, hd1, hd2, hdrd⟩ := hsd
      unfold maxLen at hd2
      have HTs := Lib.hid (recsT_step l ttl i _ hli)
      have hacl := recsT_len (l := l.take i) ttl (fun s hs => hbd.2 s (List.mem_of_mem_take hs))
      have hacl2 : (recsT (l.take i) ttl).length ≤ 1099511627776 := by
        have h4 : (l.take i).length ≤ 1048576 := by rw [List.length_take]; have := hbd.1; omega
        have := Nat.mul_le_mul_right 1048576 h4
        omega
      generalize recsT (l.take i) ttl = acc at *
      have hki : (i : Int) < (ps.length : Int) := by omega
      have hk0 : (0 : Int) ≤ (i : Int) := by omega
      clear hc hli hp hacl
      obtain ⟨g6, hg6⟩ : ∃ g6, g6 = wo.heap.size := ⟨_, rfl⟩
      obtain ⟨W6, hW6⟩ : ∃ W6, W6 = wo.alloc (.cells #[S nm, .int .u16 ty, .int .u16 cl, .int .u32 tt, .slice dA da.length dc] 39) := ⟨_, rfl⟩
      have rg : W6.heap[g6]? = some (.cells #[S nm, .int .u16 ty, .int .u16 cl, .int .u32 tt, .slice dA da.length dc] 39) := by rw [hW6, hg6]; exact heap_alloc_new _ _
      have hI6 : ArInv w acc A c W6 := by rw [hW6]; exact ⟨hI.own.ext ((Ext.refl _).alloc _), hI.ext.alloc _⟩
      go_upto_region 6 with fail
      rw [← hW6, ← hg6]
      clear hW6 hg6 hI x0 x1 x2 x3 x4
      have z4 := box_cell (j := 4) rg rfl
      have HD0 := Lib.hid (show recs1 ⟨nm, ty, cl, tt, da⟩ ttl 0 = [] by simp [recs1])
      go_wp2_with fail
      clear z4
      go_loopw [5, 8, 21] (fun s5 _ s21 wr => ∃ (j : Nat) (B : Option Addr) (d : Nat), j ≤ da.length ∧ s21 = .int .i64 j ∧ s5 = .slice B (acc ++ recs1 ⟨nm, ty, cl, tt, da⟩ ttl j).length d ∧ ArInv w (acc ++ recs1 ⟨nm, ty, cl, tt, da⟩ ttl j) B d wr ∧ wr.heap[g6]? = some (.cells #[S nm, .int .u16 ty, .int .u16 cl, .int .u32 tt, .slice dA da.length dc] 39)) (fun _ _ s21 _ => da.length - (intOf s21).toNat)
      case atStart => exact ⟨0, A, c, Nat.zero_le _, rfl, by rw [HD0.out, List.append_nil], by rw [HD0.out, List.append_nil]; exact hI6, rg⟩
      case round =>
        obtain ⟨j, B, d, hj, rfl, rfl, hJ, hrow⟩ := hrel
        obtain ⟨wq, rfl⟩ : ∃ wq : World, wq = wr := ⟨_, rfl⟩
        clear hI6 rg
        by_cases hjl : j < da.length
        · obtain ⟨dg, doff, rfl, _, hdz, hdc⟩ := hdrd.2 (by omega)
          have hdj : da[j]? = some da[j] := List.getElem?_eq_getElem hjl
          have hck := (hJ.ext.cell (p := ⟨dg, doff + j, none⟩) hdz).trans (hdc j (S da[j]) (by simp [hdj]))
          have HT := Lib.hid (recs1_step ⟨nm, ty, cl, tt, da⟩ ttl j _ hdj)
          have hrl : (recs1 ⟨nm, ty, cl, tt, da⟩ ttl j).length ≤ 1048576 := by simp only [recs1, List.length_map, List.length_take]; omega
          generalize da[j] = y at *
          generalize recs1 ⟨nm, ty, cl, tt, da⟩ ttl j = rj at *
          have hal : (acc ++ rj).length ≤ 1099512676352 := by rw [List.length_append]; omega
          generalize hAL : acc ++ rj = al at *
          have HAL := Lib.hid hAL
          have y0 := box_cell (j := 0) hrow rfl
          have y1 := box_cell (j := 1) hrow rfl
          have y2 := box_cell (j := 2) hrow rfl
          have y3 := box_cell (j := 3) hrow rfl
          have y4 := box_cell (j := 4) hrow rfl
          have hji : (j : Int) < (da.length : Int) := by omega
          have hj0 : (0 : Int) ≤ (j : Int) := by omega
          clear hdc hdj hAL hrl
          go_upto_region 9 with fail
          refine wp_region_noPanic ?_
          refine wp_region_tree (S := fun V => V.cell? ⟨g6, 0, none⟩ = some (S nm) ∧ V.cell? ⟨g6, 1, none⟩ = some (.int .u16 ty) ∧ V.cell? ⟨g6, 2, none⟩ = some (.int .u16 cl) ∧ V.cell? ⟨g6, 3, none⟩ = some (.int .u32 tt) ∧ V.cell? ⟨g6, 4, none⟩ = some (.slice (some ⟨dg, doff, none⟩) da.length dc) ∧ V.cell? ⟨dg, doff + j, none⟩ = some (S y)) (.take 0 (.take 1 (.take 2 (.take 3 (.take 4 (.take 5 (.take 6 (.take 7 (.take 8 (.take 9 (.take 10 (.take 11 (.take 12 (.take 13 (.run 14 (.run 15 (.take 16 .done))))))))))))))))) (by kernel_rfl) (by kernel_rfl) (fun _ _ _ _ _ h => h) ⟨y0, y1, y2, y3, y4, hck⟩ ?_
          repeat ((with_reducible refine treeIs ?_); first
            | (refine treeTake (v := ?_) (by rfl) (by rfl) ?_ ?_; rotate_left; (focus (intro V hV; obtain ⟨hV0, hV1, hV2, hV3, hV4, hV5⟩ := hV; (go_simp <;> with_reducible rfl))); (try simp only [Act.put, List.setIfInBounds_toArray, List.set_cons_zero, List.set_cons_succ])))
          refine treeRun (by rfl) (fun K hK => ?_)
          go_simp
          have hEq1 : Ext wq (wq.alloc (.cells #[S nm, .int .u16 ty, .int .u16 cl, .int .u32 ttl, S y] 75)).drew := ((Ext.refl wq).alloc _).drew
          have hKS : ∀ V : World, (∀ x, x < wq.heap.size → x = g6 ∨ x = dg → V.heap[x]? = wq.heap[x]?) → V.cell? ⟨g6, 0, none⟩ = some (S nm) ∧ V.cell? ⟨g6, 1, none⟩ = some (.int .u16 ty) ∧ V.cell? ⟨g6, 2, none⟩ = some (.int .u16 cl) ∧ V.cell? ⟨g6, 3, none⟩ = some (.int .u32 tt) ∧ V.cell? ⟨g6, 4, none⟩ = some (.slice (some ⟨dg, doff, none⟩) da.length dc) ∧ V.cell? ⟨dg, doff + j, none⟩ = some (S y) := fun V hV => by
            have e1 := hV g6 (Array.getElem?_eq_some_iff.1 hrow).1 (.inl rfl)
            have e2 := hV dg (spot_of hck).2 (.inr rfl)
            simp only [World.cell?, e1, e2] at y0 y1 y2 y3 y4 hck ⊢
            exact ⟨y0, y1, y2, y3, y4, hck⟩
          refine hK.out _ _ (hKS _ fun x hx _ => hEq1.block x hx) ?_
          clear hK K
          (try simp only [Act.put, List.setIfInBounds_toArray, List.set_cons_zero, List.set_cons_succ])
          refine treeRun (by rfl) (fun K hK => ?_)
          have hoq := hJ.own.ext hEq1
          have hzq : w.heap.size ≤ wq.heap.size := hJ.ext.size
          refine step_app (wq.alloc (.cells #[S nm, .int .u16 ty, .int .u16 cl, .int .u32 ttl, S y] 75)).drew rfl (.tmp 24) (.tmp 38) _ rfl w.heap.size 75 i0 _ 5 40 Tryd.underlying50 hi0 hz0 hz1 hz2 rfl (by omega) B al.length d (al.flatMap recCells) rfl hoq 0 _ 1 1 (recCells ⟨nm, ty, cl, ttl, y⟩) rfl ((rd_new _ _ (by simp) _ _ 1 5 rfl).drew) (rec_one7 _) (by omega) (by omega) (by simp; omega) ?_
          intro A5 c5 w5 hown5 hg5 hb5 hat5
          have hsz1 := hEq1.size
          have hkx : ∀ x, x < wq.heap.size → x = g6 ∨ x = dg → w5.heap[x]? = wq.heap[x]? := fun x hx hor => by
            refine (hg5.block x (by omega) (fun e => ?_)).trans (hEq1.block x hx)
            rcases hor with rfl | rfl
            · obtain ⟨cur, hcur⟩ := hoq.row x e.symm
              rw [hEq1.block x hx, hrow] at hcur
              injection hcur with hcur
              injection hcur with _ hcur _
              exact absurd hcur (by decide)
            · have := (hoq.blk x e.symm).1
              omega
          have hE5 : Ext w w5 := (Ext.trans hJ.ext hEq1).then hb5 (Nat.le_refl _)
          have hrow5 := (hkx g6 (Array.getElem?_eq_some_iff.1 hrow).1 (.inl rfl)).trans hrow
          refine hK.out _ _ (hKS _ hkx) ?_
          clear hK K
          (try simp only [Act.put, List.setIfInBounds_toArray, List.set_cons_zero, List.set_cons_succ])
          repeat ((with_reducible refine treeIs ?_); first
            | (refine treeTake (v := ?_) (by rfl) (by rfl) ?_ ?_; rotate_left; (focus (intro V hV; obtain ⟨hV0, hV1, hV2, hV3, hV4, hV5⟩ := hV; (go_simp <;> with_reducible rfl))); (try simp only [Act.put, List.setIfInBounds_toArray, List.set_cons_zero, List.set_cons_succ])))
          refine treeDone ?_
          refine NoPanic.normal ?_
          clear hKS hg5 hb5 hat5 y0 y1 y2 y3 y4 hck
          go_wp2_with fail
          go_roundw
          case rel =>
            have hl1 : acc ++ recs1 ⟨nm, ty, cl, tt, da⟩ ttl (j + 1) = al ++ [⟨nm, ty, cl, ttl, y⟩] := by rw [HT.out, ← List.append_assoc, HAL.out]
            refine ⟨j + 1, A5, c5, by omega, by go_num, by rw [hl1]; simp, ⟨?_, hE5⟩, hrow5⟩
            rw [hl1]
            simpa using hown5
          case measure => simp [intOf]; omega
        · obtain rfl : j = da.length := by omega
          have z4 := box_cell (j := 4) hrow rfl
          go_wp2_with fail
          go_roundw
          case rel =>
            refine ⟨i + 1, B, d, by omega, by go_num, by rw [HTs.out], ?_⟩
            rw [HTs.out]
            exact hJ
          case measure => simp [intOf]; omega
    · obtain rfl : i = ps.length := by omega
      have HF := Lib.hid (show l.take ps.length = l from List.take_of_length_le (by omega))
      rw [HF.out] at hI ⊢
      go_wp2_with fail
      go_ret
      exact ⟨_, rfl, ⟨A, c, rfl, hI.own⟩, hI.ext⟩
end Go.Proofs.YtjmfpillnbnofaaDoor
namespace Go.Proofs.YtjmfpillnbnofaaDoor
set_option linter.unusedSimpArgs false
set_option linter.unusedVariables false
open Go.RowKit
set_option maxRecDepth 100000

structure SetsOk7 (l : List SetD) : Prop where
  len : l.length ≤ 1048576
  bd : ∀ s ∈ l, s.name.length ≤ 1048576 ∧ s.data.length ≤ 65536 ∧ ∀ d ∈ s.data, d.length ≤ 1048576
  wf : ∀ s ∈ l, s.wfT
theorem SetsOk7.ans {l : List SetD} (h : SetsOk7 l) : AnsBd l := ⟨h.len, fun s hs => Nat.le_trans (h.bd s hs).2.1 (by omega)⟩
theorem SetsOk7.recs {l : List SetD} (h : SetsOk7 l) (ttl : Int) : ∀ r ∈ recsT l ttl, Rec7Ok r := by
  intro r hr
  unfold recsT at hr
  obtain ⟨s, hs, hr⟩ := List.mem_flatMap.1 hr
  obtain ⟨d, hd, rfl⟩ := List.mem_map.1 hr
  exact ⟨(h.bd s hs).1, (h.bd s hs).2.2 d hd⟩
/-- A message with answers and authority. -/
def withR (m : MsgD) (a u : List RecD) : MsgD := { m with ans := a, auth := u }
def withT (m : MsgD) : MsgD := { m with hd := { m.hd with tc := true } }
theorem ans_cases {c : CameD} {code : Int} {sets soa : List SetD} {ttl size : Int} (h : ansMay c code sets soa ttl size) :
    (mayM (withR (blankOf c code size) (recsT sets ttl) (recsT soa ttl)) = false ∧ ansOf c code sets soa ttl size = []) ∨
    (mayM (withR (blankOf c code size) (recsT sets ttl) (recsT soa ttl)) = true ∧ encErr (withR (blankOf c code size) (recsT sets ttl) (recsT soa ttl)) = 0 ∧ ((encOf (withR (blankOf c code size) (recsT sets ttl) (recsT soa ttl))).length : Int) ≤ roomOf c size ∧ ansOf c code sets soa ttl size = encOf (withR (blankOf c code size) (recsT sets ttl) (recsT soa ttl))) ∨
    (mayM (withR (blankOf c code size) (recsT sets ttl) (recsT soa ttl)) = true ∧ (encErr (withR (blankOf c code size) (recsT sets ttl) (recsT soa ttl)) ≠ 0 ∨ ¬ ((encOf (withR (blankOf c code size) (recsT sets ttl) (recsT soa ttl))).length : Int) ≤ roomOf c size) ∧ ansOf c code sets soa ttl size = encOf (withT (blankOf c code size))) := by
  have e1 : withR (blankOf c code size) (recsT sets ttl) (recsT soa ttl) = fullOf c code sets soa ttl size := rfl
  have e2 : withT (blankOf c code size) = cutOf c code size := rfl
  rw [e1, e2]
  unfold ansOf
  by_cases hm : mayM (fullOf c code sets soa ttl size) = true
  · rw [if_pos ⟨h, hm⟩]
    by_cases hr : roomy c code sets soa ttl size
    · rw [if_pos hr]
      refine .inr (.inl ⟨hm, hr.1, ?_, rfl⟩)
      rw [(enc_may hr.1).2.2]; exact hr.2
    · rw [if_neg hr]
      refine .inr (.inr ⟨hm, ?_, rfl⟩)
      by_cases he : encErr (fullOf c code sets soa ttl size) = 0
      · right
        intro hl
        rw [(enc_may he).2.2] at hl
        exact hr ⟨he, hl⟩
      · exact .inl he
  · rw [if_neg (fun hh => hm hh.2)]
    exact .inl ⟨by rcases hb : mayM (fullOf c code sets soa ttl size) with _ | _; rfl; exact absurd hb hm, rfl⟩
set_option maxHeartbeats 4000000 in
theorem ans_of (c : CameD) (code : Int) (vs vo : Value) (sets soa : List SetD) (ttl size : Int) (w : World) (hg : Laid w) (hb : BitsAt w) (hc : c.wf) (hn : c.q.name.length ≤ 1048576)
    (hs : Sets w 0 vs sets) (ho : Sets w 0 vo soa) (h1 : SetsOk7 sets) (h2 : SetsOk7 soa) (ht : 0 ≤ ttl ∧ ttl ≤ 4294967295) :
    Calls Tryd.prog 6 #[caV c, .agg #[.int .u8 code, vs, vo], .int .u32 ttl, .int .i64 size] w (StrPost (ansOf c code sets soa ttl size) w) := by
  obtain ⟨R, hR⟩ : ∃ R, R = ansOf c code sets soa ttl size := ⟨_, rfl⟩
  rw [← hR]
  have hs' := hs
  have ho' := ho
  obtain ⟨sps, sA, sc, _, rfl, _, _, _, _⟩ := hs
  obtain ⟨ops, oA, oc, _, rfl, _, _, _, _⟩ := ho
  obtain ⟨X0, hX0⟩ : ∃ X0, X0 = (w.alloc (.cells (caRow c.kind c.code c.hd c.hasQ c.q c.hasE c.size) 29)).alloc (.cells #[.int .u8 code, .slice sA sps.length sc, .slice oA ops.length oc] 34) := ⟨_, rfl⟩
  have hw0 : Ext w X0 := by rw [hX0]; exact ((Ext.refl _).alloc _).alloc _
  have r1 : X0.heap[w.heap.size + 1]? = some (.cells #[.int .u8 code, .slice sA sps.length sc, .slice oA ops.length oc] 34) := by rw [hX0]; exact heap_alloc2_new w _ _
  have r0 : X0.heap[w.heap.size]? = some (.cells (caRow c.kind c.code c.hd c.hasQ c.q c.hasE c.size) 29) := by
    rw [hX0]
    have h1 := heap_alloc_new w (.cells (caRow c.kind c.code c.hd c.hasQ c.q c.hasE c.size) 29)
    rw [heap_alloc_old _ _ (Array.getElem?_eq_some_iff.1 h1).1]; exact h1
  have z0 : X0.cell? ⟨w.heap.size, 0, none⟩ = some (.int .u8 c.kind) := box_cell r0 rfl
  have v0 : X0.cell? ⟨w.heap.size + 1, 0, none⟩ = some (.int .u8 code) := box_cell r1 rfl
  have HS := Lib.hid (fun V => ans_sized size V)
  have hcut : ansMay c code sets soa ttl size ∨ ¬ ansMay c code sets soa ttl size := Decidable.em _
  go_enter Tryd.func6, Tryd.ntmps6
  go_upto_region 1 with fail
  have hzz : (w.alloc (.cells (caRow c.kind c.code c.hd c.hasQ c.q c.hasE c.size) 29)).alloc (.cells #[.int .u8 code, .slice sA sps.length sc, .slice oA ops.length oc] 34) = X0 := hX0.symm
  rw [hzz]
  clear hzz hX0
  rcases hcut with hcut | hcut
  rotate_left
  · unfold ansOf at hR
    rw [if_neg (fun h => hcut h.1)] at hR
    have HR := Lib.hid hR
    clear hR
    unfold ansMay at hcut
    by_cases hk : c.kind = 3
    · have f1 : (c.kind != 3) = false := by rw [hk]; rfl
      by_cases hz : 512 ≤ size ∧ size ≤ 4096
      · have HSz := Lib.hid (show sizedB size = true by unfold sizedB; rw [decide_eq_true_eq]; exact hz)
        rw [HSz.out] at HS
        by_cases hcd : code = 0 ∨ code = 3
        · have f2 : (code != 0) = false ∨ ((code != 0) = true ∧ (code != 3) = false) := by
            rcases hcd with rfl | rfl
            · exact .inl rfl
            · exact .inr ⟨rfl, rfl⟩
          have f3 : (2147483647 : Int) < ttl := by
            apply Decidable.byContradiction
            intro h
            exact hcut ⟨hk, hz, hcd, by omega⟩
          clear hk hz hcd hcut
          rcases f2 with f2 | ⟨f2, f2'⟩
          all_goals
            go_wp2_with (go_at_call 10; refine (HS.out _).mono ?_; rintro e w1 ⟨rfl, rfl⟩)
            go_ret
            exact ⟨by rw [HR.out]; rfl, hw0⟩
        · have f2 : (code != 0) = true := by rw [bne_iff_ne]; exact fun h => hcd (.inl h)
          have f3 : (code != 3) = true := by rw [bne_iff_ne]; exact fun h => hcd (.inr h)
          clear hk hz hcd hcut
          go_wp2_with (go_at_call 10; refine (HS.out _).mono ?_; rintro e w1 ⟨rfl, rfl⟩)
          go_ret
          exact ⟨by rw [HR.out]; rfl, hw0⟩
      · have HSz := Lib.hid (show sizedB size = false by unfold sizedB; rw [decide_eq_false_iff_not]; exact hz)
        rw [HSz.out] at HS
        clear hk hz hcut
        go_wp2_with (go_at_call 10; refine (HS.out _).mono ?_; rintro e w1 ⟨rfl, rfl⟩)
        go_ret
        exact ⟨by rw [HR.out]; rfl, hw0⟩
    · have f1 : (c.kind != 3) = true := by rw [bne_iff_ne]; exact hk
      clear hk hcut
      go_wp2_with fail
      go_ret
      exact ⟨by rw [HR.out]; rfl, hw0⟩
  · obtain ⟨hk, hz, hcd, hth⟩ := id hcut
    have f1 : (c.kind != 3) = false := by rw [hk]; rfl
    have HSz := Lib.hid (show sizedB size = true by unfold sizedB; rw [decide_eq_true_eq]; exact hz)
    rw [HSz.out] at HS
    have f2 : (code != 0) = false ∨ ((code != 0) = true ∧ (code != 3) = false) := by
      rcases hcd with rfl | rfl
      · exact .inl rfl
      · exact .inr ⟨rfl, rfl⟩
    have f3 : ¬ (2147483647 : Int) < ttl := by omega
    obtain ⟨cn, rfl⟩ : ∃ cn : Nat, code = cn := ⟨code.toNat, by omega⟩
    obtain ⟨sn, rfl⟩ : ∃ sn : Nat, size = sn := ⟨size.toNat, by omega⟩
    have hcn : cn ≤ 3 := by clear hs' ho' hR; omega
    have hsn : sn ≤ 4096 := by have := hz.2; clear hs' ho' hR; omega
    have hwz : wrap64 (cn : Int) = (cn : Int) := by clear hs' ho' hR hcut; unfold wrap64; omega
    have HB := Lib.hid (int_blank c cn sn X0 (Nat.le_trans hcn (by decide)) (Nat.le_trans hsn (by decide)))
    have hmw := blank_wf hc cn sn
    have hmq := blank_qok c cn sn hn
    have hmo := blank_opts c cn sn
    have hcases := ans_cases (c := c) (sets := sets) (soa := soa) (ttl := ttl) hcut
    have HRo := Lib.hid (fun V => int_room c sn V)
    have hRR : R = ansOf c cn sets soa ttl sn := hR
    clear hR
    rw [← hRR] at hcases
    obtain ⟨m, hm⟩ : ∃ m, m = blankOf c cn sn := ⟨_, rfl⟩
    rw [← hm] at HB hmw hmq hmo hcases
    have hbl3 : m.ans = [] ∧ m.auth = [] ∧ m.extra = [] := by rw [hm]; exact ⟨rfl, rfl, rfl⟩
    clear hm hRR hk hz hcd hth hcut
    have L0 := row_all r0
    have HR1 := Lib.hid (fun V (hV : Ext w V) => ans_records (.slice sA sps.length sc) sets ttl V (hs'.ext hV) h1.ans)
    have HR2 := Lib.hid (fun V (hV : Ext w V) => ans_records (.slice oA ops.length oc) soa ttl V (ho'.ext hV) h2.ans)
    have HW1 := Lib.hid (show (withR m (recsT sets ttl) (recsT soa ttl)).wf from ⟨hmw.id, hmw.op, hmw.code, hmw.qs, recsT_wf h1.wf ht, recsT_wf h2.wf ht, hmw.extra, hmw.size, hmw.ext, hmw.ver, hmw.flags, hmw.opts⟩)
    have HW2 := Lib.hid (show (withT m).wf from ⟨hmw.id, hmw.op, hmw.code, hmw.qs, hmw.ans, hmw.auth, hmw.extra, hmw.size, hmw.ext, hmw.ver, hmw.flags, hmw.opts⟩)
    have HAns := Lib.hid (show m.ans = [] ∧ m.auth = [] ∧ m.extra = [] from hbl3)
    have HB1 := Lib.hid (h1.recs ttl)
    have HB2 := Lib.hid (h2.recs ttl)
    have HCases := Lib.hid hcases
    clear hcases
    rcases f2 with f2 | ⟨f2, f2'⟩
    all_goals
      go_upto_region 5 with (go_at_call 10; refine (HS.out _).mono ?_; rintro e w1 ⟨rfl, rfl⟩)
      (try clear f2')
      clear f1 f2 f3 z0
      refine wp_region_lit ?_
      refine wpList_load_part (by rfl) 29 (.tmp 4) rfl w.heap.size 0 rfl [.int .u8 c.kind, .int .i64 c.code, .int .u16 c.hd.id, .bool c.hd.qr, .int .u8 c.hd.op, .bool c.hd.aa, .bool c.hd.tc, .bool c.hd.rd, .bool c.hd.ra, .bool c.hd.z, .bool c.hd.ad, .bool c.hd.cd, .int .u8 c.hd.code, .bool c.hasQ, S c.q.name, .int .u16 c.q.typ, .int .u16 c.q.cls, .bool c.hasE, .int .i64 c.size] L0 _ Tryd.underlying29 rfl (by kernel_rfl) ?_
      iterate 14 go_step
      refine HB.out.mono ?_
      rintro e w2 ⟨q, rfl, hq, hE2⟩
      obtain ⟨qA, qc, rfl, hq1, hq2, hqr⟩ := hq
      dsimp only
      iterate 1 go_step
      obtain ⟨b9, hb9⟩ : ∃ b9, b9 = w2.heap.size := ⟨_, rfl⟩
      have hz9 : (w2.alloc (.cells msgZ 55)).heap[b9]? = some (.cells msgZ 55) := by rw [hb9]; exact heap_alloc_new _ _
      refine Go.Great.wpList_allocTo rfl (some 9) rfl (.pointer (some ⟨w2.heap.size, 0, none⟩)) (.cells msgZ 55) (by kernel_rfl) ?_
      rw [← hb9]
      refine Go.wpList_store_rowTo rfl 55 (.tmp 9) (.tmp 37) rfl rfl b9 #[.int .u16 m.hd.id, .bool m.hd.qr, .int .u8 m.hd.op, .bool m.hd.aa, .bool m.hd.tc, .bool m.hd.rd, .bool m.hd.ra, .bool m.hd.z, .bool m.hd.ad, .bool m.hd.cd, .int .u8 m.hd.code, .slice qA m.qs.length qc, .slice none 0 0, .slice none 0 0, .slice none 0 0, .bool m.he, .int .u16 m.ed.size, .int .u8 m.ed.ext, .int .u8 m.ed.ver, .int .u16 m.ed.flags, .slice none 0 0] rfl rfl 55 _ hz9 (by kernel_rfl) rfl (by kernel_rfl) ?_
      rw [alloc_setRow7 w2 msgZ #[.int .u16 m.hd.id, .bool m.hd.qr, .int .u8 m.hd.op, .bool m.hd.aa, .bool m.hd.tc, .bool m.hd.rd, .bool m.hd.ra, .bool m.hd.z, .bool m.hd.ad, .bool m.hd.cd, .int .u8 m.hd.code, .slice qA m.qs.length qc, .slice none 0 0, .slice none 0 0, .slice none 0 0, .bool m.he, .int .u16 m.ed.size, .int .u8 m.ed.ext, .int .u8 m.ed.ver, .int .u16 m.ed.flags, .slice none 0 0] 55 b9 hb9]
      refine wpList_nil ?_
      have r9 : (w2.alloc (.cells #[.int .u16 m.hd.id, .bool m.hd.qr, .int .u8 m.hd.op, .bool m.hd.aa, .bool m.hd.tc, .bool m.hd.rd, .bool m.hd.ra, .bool m.hd.z, .bool m.hd.ad, .bool m.hd.cd, .int .u8 m.hd.code, .slice qA m.qs.length qc, .slice none 0 0, .slice none 0 0, .slice none 0 0, .bool m.he, .int .u16 m.ed.size, .int .u8 m.ed.ext, .int .u8 m.ed.ver, .int .u16 m.ed.flags, .slice none 0 0] 55)).heap[b9]? = some (.cells #[.int .u16 m.hd.id, .bool m.hd.qr, .int .u8 m.hd.op, .bool m.hd.aa, .bool m.hd.tc, .bool m.hd.rd, .bool m.hd.ra, .bool m.hd.z, .bool m.hd.ad, .bool m.hd.cd, .int .u8 m.hd.code, .slice qA m.qs.length qc, .slice none 0 0, .slice none 0 0, .slice none 0 0, .bool m.he, .int .u16 m.ed.size, .int .u8 m.ed.ext, .int .u8 m.ed.ver, .int .u16 m.ed.flags, .slice none 0 0] 55) := by rw [hb9]; exact heap_alloc_new _ _
      have hE9 : Ext w2 (w2.alloc (.cells #[.int .u16 m.hd.id, .bool m.hd.qr, .int .u8 m.hd.op, .bool m.hd.aa, .bool m.hd.tc, .bool m.hd.rd, .bool m.hd.ra, .bool m.hd.z, .bool m.hd.ad, .bool m.hd.cd, .int .u8 m.hd.code, .slice qA m.qs.length qc, .slice none 0 0, .slice none 0 0, .slice none 0 0, .bool m.he, .int .u16 m.ed.size, .int .u8 m.ed.ext, .int .u8 m.ed.ver, .int .u16 m.ed.flags, .slice none 0 0] 55)) := (Ext.refl _).alloc _
      obtain ⟨X5, hX⟩ : ∃ X5, X5 = w2.alloc (.cells #[.int .u16 m.hd.id, .bool m.hd.qr, .int .u8 m.hd.op, .bool m.hd.aa, .bool m.hd.tc, .bool m.hd.rd, .bool m.hd.ra, .bool m.hd.z, .bool m.hd.ad, .bool m.hd.cd, .int .u8 m.hd.code, .slice qA m.qs.length qc, .slice none 0 0, .slice none 0 0, .slice none 0 0, .bool m.he, .int .u16 m.ed.size, .int .u8 m.ed.ext, .int .u8 m.ed.ver, .int .u16 m.ed.flags, .slice none 0 0] 55) := ⟨_, rfl⟩
      rw [← hX] at r9 hE9 ⊢
      have hb92 : w2.heap.size ≤ b9 := by omega
      have hw2 : Ext w w2 := hw0.trans hE2
      clear hX hz9 hb9
      have r15 := ((hE2.trans hE9).block _ (Array.getElem?_eq_some_iff.1 r1).1).trans r1
      have r05 := ((hE2.trans hE9).block _ (Array.getElem?_eq_some_iff.1 r0).1).trans r0
      have v1 : X5.cell? ⟨w.heap.size + 1, 1, none⟩ = some (.slice sA sps.length sc) := box_cell r15 rfl
      have hb95 := (Array.getElem?_eq_some_iff.1 r9).1
      go_wp2_with fail
      refine (HR1.out _ (hw2.trans hE9)).mono ?_
      rintro e w6 ⟨v6, rfl, hor6, hE6⟩
      obtain ⟨aA, ac, rfl, hao⟩ := hor6
      have r96 := (hE6.block _ hb95).trans r9
      have k12 := box_cell (j := 12) r96 rfl
      have g12 := box_free (j := 12) r96
      go_upto_region 7 with fail
      have hE26 : Ext w2 (w6.setCell ⟨b9, 12, none⟩ (.slice aA (recsT sets ttl).length ac)) := (hE9.trans hE6).setCell (p := ⟨b9, 12, none⟩) hb92 _
      have r97 : (w6.setCell ⟨b9, 12, none⟩ (.slice aA (recsT sets ttl).length ac)).heap[b9]? = some (.cells #[.int .u16 m.hd.id, .bool m.hd.qr, .int .u8 m.hd.op, .bool m.hd.aa, .bool m.hd.tc, .bool m.hd.rd, .bool m.hd.ra, .bool m.hd.z, .bool m.hd.ad, .bool m.hd.cd, .int .u8 m.hd.code, .slice qA m.qs.length qc, .slice aA (recsT sets ttl).length ac, .slice none 0 0, .slice none 0 0, .bool m.he, .int .u16 m.ed.size, .int .u8 m.ed.ext, .int .u8 m.ed.ver, .int .u16 m.ed.flags, .slice none 0 0] 55) := row_set r96 12 _
      have hao7 := hao.set_other (p := ⟨b9, 12, none⟩) hb95 (.slice aA (recsT sets ttl).length ac)
      obtain ⟨X6, hX⟩ : ∃ X6, X6 = w6.setCell ⟨b9, 12, none⟩ (.slice aA (recsT sets ttl).length ac) := ⟨_, rfl⟩
      rw [← hX] at hE26 r97 hao7 ⊢
      clear hX k12 g12 r96 r9 hao v1
      have hw6 : Ext w X6 := hw2.trans hE26
      have r16 := ((hE2.trans hE26).block _ (Array.getElem?_eq_some_iff.1 r1).1).trans r1
      have v2 : X6.cell? ⟨w.heap.size + 1, 2, none⟩ = some (.slice oA ops.length oc) := box_cell r16 rfl
      have hb96 := (Array.getElem?_eq_some_iff.1 r97).1
      go_wp2_with fail
      refine (HR2.out _ hw6).mono ?_
      rintro e w7 ⟨v7, rfl, hor7, hE7⟩
      obtain ⟨uA, uc, rfl, huo⟩ := hor7
      have r98 := (hE7.block _ hb96).trans r97
      have k13 := box_cell (j := 13) r98 rfl
      have g13 := box_free (j := 13) r98
      go_upto_region 8 with fail
      have hE27 : Ext w2 (w7.setCell ⟨b9, 13, none⟩ (.slice uA (recsT soa ttl).length uc)) := (hE26.trans hE7).setCell (p := ⟨b9, 13, none⟩) hb92 _
      have r99 : (w7.setCell ⟨b9, 13, none⟩ (.slice uA (recsT soa ttl).length uc)).heap[b9]? = some (.cells #[.int .u16 m.hd.id, .bool m.hd.qr, .int .u8 m.hd.op, .bool m.hd.aa, .bool m.hd.tc, .bool m.hd.rd, .bool m.hd.ra, .bool m.hd.z, .bool m.hd.ad, .bool m.hd.cd, .int .u8 m.hd.code, .slice qA m.qs.length qc, .slice aA (recsT sets ttl).length ac, .slice uA (recsT soa ttl).length uc, .slice none 0 0, .bool m.he, .int .u16 m.ed.size, .int .u8 m.ed.ext, .int .u8 m.ed.ver, .int .u16 m.ed.flags, .slice none 0 0] 55) := row_set r98 13 _
      have huo8 := huo.set_other (p := ⟨b9, 13, none⟩) hb96 (.slice uA (recsT soa ttl).length uc)
      have hao8 := (hao7.ext hE7).set_other (p := ⟨b9, 13, none⟩) hb95 (.slice uA (recsT soa ttl).length uc)
      obtain ⟨X7, hX⟩ : ∃ X7, X7 = w7.setCell ⟨b9, 13, none⟩ (.slice uA (recsT soa ttl).length uc) := ⟨_, rfl⟩
      rw [← hX] at hE27 r99 huo8 hao8 ⊢
      clear hX k13 g13 r98 r97 huo hao7 v2
      have hw7 : Ext w X7 := hw2.trans hE27
      have r07 := ((hE2.trans hE27).block _ (Array.getElem?_eq_some_iff.1 r0).1).trans r0
      have HMsg := Lib.hid (show Msg7 X7 (withR m (recsT sets ttl) (recsT soa ttl)) (.slice qA m.qs.length qc) (.slice aA (recsT sets ttl).length ac) (.slice uA (recsT soa ttl).length uc) (.slice none 0 0) (.slice none 0 0) from
        ⟨⟨qA, qc, rfl, hq1, hq2, hqr.ext hE27⟩, ⟨aA, ac, rfl, hao8.cap.1, hao8.cap.2, hao8.rd.lower (Nat.zero_le _)⟩, ⟨uA, uc, rfl, huo8.cap.1, huo8.cap.2, huo8.rd.lower (Nat.zero_le _)⟩, by show Recs X7 0 _ m.extra; rw [HAns.out.2.2]; exact recs_nil X7, by show Opts X7 0 _ m.ed.opts; rw [hmo]; exact opts_nil X7, hmq, HB1.out, HB2.out, (fun r (hr : r ∈ m.extra) => by rw [HAns.out.2.2] at hr; cases hr), by show m.extra.length ≤ _; rw [HAns.out.2.2]; exact Nat.zero_le _⟩)
      have HMay := Lib.hid (wire_may (withR m (recsT sets ttl) (recsT soa ttl)) _ _ _ _ _ X7 (hg.ext hw7) (hb.ext hw7) HW1.out.op HW1.out.code HMsg.out)
      have HEnc := Lib.hid (fun V (hV : Ext X7 V) => wire_encode (withR m (recsT sets ttl) (recsT soa ttl)) _ _ _ _ _ V ((hg.ext hw7).ext hV) ((hb.ext hw7).ext hV) HW1.out (HMsg.out.ext hV))
      have HEncT := Lib.hid (fun V (hV : Ext w2 V) => wire_encode (withT m) (.slice qA m.qs.length qc) (.slice none 0 0) (.slice none 0 0) (.slice none 0 0) (.slice none 0 0) V ((hg.ext hw2).ext hV) ((hb.ext hw2).ext hV) HW2.out
        ⟨⟨qA, qc, rfl, hq1, hq2, hqr.ext hV⟩, by show Recs V 0 _ m.ans; rw [HAns.out.1]; exact recs_nil V, by show Recs V 0 _ m.auth; rw [HAns.out.2.1]; exact recs_nil V, by show Recs V 0 _ m.extra; rw [HAns.out.2.2]; exact recs_nil V, by show Opts V 0 _ m.ed.opts; rw [hmo]; exact opts_nil V, hmq, (fun r (hr : r ∈ m.ans) => by rw [HAns.out.1] at hr; cases hr), (fun r (hr : r ∈ m.auth) => by rw [HAns.out.2.1] at hr; cases hr), (fun r (hr : r ∈ m.extra) => by rw [HAns.out.2.2] at hr; cases hr), by show m.extra.length ≤ _; rw [HAns.out.2.2]; exact Nat.zero_le _⟩)
      unfold EncPost at HEnc HEncT
      clear hao8 huo8 hqr hq1 hq2
      go_wp2_with (first | (refine wpList_load_part (by rfl) 55 (.tmp 9) rfl b9 0 rfl [.int .u16 m.hd.id, .bool m.hd.qr, .int .u8 m.hd.op, .bool m.hd.aa, .bool m.hd.tc, .bool m.hd.rd, .bool m.hd.ra, .bool m.hd.z, .bool m.hd.ad, .bool m.hd.cd, .int .u8 m.hd.code, .slice qA m.qs.length qc, .slice aA (recsT sets ttl).length ac, .slice uA (recsT soa ttl).length uc, .slice none 0 0, .bool m.he, .int .u16 m.ed.size, .int .u8 m.ed.ext, .int .u8 m.ed.ver, .int .u16 m.ed.flags, .slice none 0 0] (row_all r99) _ Tryd.underlying55 rfl (by kernel_rfl) ?_) | fail)
      refine HMay.out.mono ?_
      rintro e w8 ⟨rfl, hE8⟩
      have r98 := (hE8.block _ (Array.getElem?_eq_some_iff.1 r99).1).trans r99
      rcases HCases.out with ⟨hmm, hR⟩ | ⟨hmm, he, hlr, hR⟩ | ⟨hmm, hor, hR⟩
      · have HR := Lib.hid hR
        rw [hmm]
        clear hR hmm
        go_wp2_with fail
        go_ret
        exact ⟨by rw [HR.out]; rfl, hw7.trans hE8⟩
      · have HR := Lib.hid hR
        have He := Lib.hid he
        have hrm := HRo
        rw [hmm]
        clear hR hmm he
        go_wp2_with (first | (refine wpList_load_part (by rfl) 55 (.tmp 9) rfl b9 0 rfl [.int .u16 m.hd.id, .bool m.hd.qr, .int .u8 m.hd.op, .bool m.hd.aa, .bool m.hd.tc, .bool m.hd.rd, .bool m.hd.ra, .bool m.hd.z, .bool m.hd.ad, .bool m.hd.cd, .int .u8 m.hd.code, .slice qA m.qs.length qc, .slice aA (recsT sets ttl).length ac, .slice uA (recsT soa ttl).length uc, .slice none 0 0, .bool m.he, .int .u16 m.ed.size, .int .u8 m.ed.ext, .int .u8 m.ed.ver, .int .u16 m.ed.flags, .slice none 0 0] (row_all r98) _ Tryd.underlying55 rfl (by kernel_rfl) ?_) | fail)
        refine (HEnc.out _ hE8).mono ?_
        rintro e w9 ⟨rfl, hE9⟩
        rw [He.out]
        have L09 := row_all (((hE8.trans hE9).block _ (Array.getElem?_eq_some_iff.1 r07).1).trans r07)
        generalize encOf (withR m (recsT sets ttl) (recsT soa ttl)) = EN at *
        generalize roomOf c sn = RM at *
        go_wp2_with (first | (refine wpList_load_part (by rfl) 29 (.tmp 4) rfl w.heap.size 0 rfl [.int .u8 c.kind, .int .i64 c.code, .int .u16 c.hd.id, .bool c.hd.qr, .int .u8 c.hd.op, .bool c.hd.aa, .bool c.hd.tc, .bool c.hd.rd, .bool c.hd.ra, .bool c.hd.z, .bool c.hd.ad, .bool c.hd.cd, .int .u8 c.hd.code, .bool c.hasQ, S c.q.name, .int .u16 c.q.typ, .int .u16 c.q.cls, .bool c.hasE, .int .i64 c.size] L09 _ Tryd.underlying29 rfl (by kernel_rfl) ?_) | fail)
        refine (HRo.out _).mono ?_
        rintro e w10 ⟨rfl, hE10⟩
        go_wp2_with fail
        go_ret
        exact ⟨by rw [HR.out]; rfl, (hw7.trans (hE8.trans hE9)).trans hE10⟩
      · have HR := Lib.hid hR
        rw [hmm]
        clear hR hmm
        have HeT := Lib.hid (Decidable.em (encErr (withT m) = 0))
        go_wp2_with (first | (refine wpList_load_part (by rfl) 55 (.tmp 9) rfl b9 0 rfl [.int .u16 m.hd.id, .bool m.hd.qr, .int .u8 m.hd.op, .bool m.hd.aa, .bool m.hd.tc, .bool m.hd.rd, .bool m.hd.ra, .bool m.hd.z, .bool m.hd.ad, .bool m.hd.cd, .int .u8 m.hd.code, .slice qA m.qs.length qc, .slice aA (recsT sets ttl).length ac, .slice uA (recsT soa ttl).length uc, .slice none 0 0, .bool m.he, .int .u16 m.ed.size, .int .u8 m.ed.ext, .int .u8 m.ed.ver, .int .u16 m.ed.flags, .slice none 0 0] (row_all r98) _ Tryd.underlying55 rfl (by kernel_rfl) ?_) | fail)
        refine (HEnc.out _ hE8).mono ?_
        rintro e w9 ⟨rfl, hE9⟩
        have r910 := (hE9.block _ (Array.getElem?_eq_some_iff.1 r98).1).trans r98
        have hE29 : Ext w2 w9 := hE27.trans (hE8.trans hE9)
        by_cases he : encErr (withR m (recsT sets ttl) (recsT soa ttl)) = 0
        · have hnl : ¬ ((encOf (withR m (recsT sets ttl) (recsT soa ttl))).length : Int) ≤ roomOf c sn := by
            rcases hor with h | h
            · exact absurd he h
            · exact Int.not_le.2 h
          rw [he]
          clear hor he
          have L09 := row_all (((hE8.trans hE9).block _ (Array.getElem?_eq_some_iff.1 r07).1).trans r07)
          generalize encOf (withR m (recsT sets ttl) (recsT soa ttl)) = EN at *
          generalize roomOf c sn = RM at *
          go_wp2_with (first | (refine wpList_load_part (by rfl) 29 (.tmp 4) rfl w.heap.size 0 rfl [.int .u8 c.kind, .int .i64 c.code, .int .u16 c.hd.id, .bool c.hd.qr, .int .u8 c.hd.op, .bool c.hd.aa, .bool c.hd.tc, .bool c.hd.rd, .bool c.hd.ra, .bool c.hd.z, .bool c.hd.ad, .bool c.hd.cd, .int .u8 c.hd.code, .bool c.hasQ, S c.q.name, .int .u16 c.q.typ, .int .u16 c.q.cls, .bool c.hasE, .int .i64 c.size] L09 _ Tryd.underlying29 rfl (by kernel_rfl) ?_) | fail)
          refine (HRo.out _).mono ?_
          rintro e w10 ⟨rfl, hE10⟩
          have r911 := (hE10.block _ (Array.getElem?_eq_some_iff.1 r910).1).trans r910
          have k4 := box_cell (j := 4) r911 rfl
          have k12 := box_cell (j := 12) r911 rfl
          have k13 := box_cell (j := 13) r911 rfl
          have g4 := box_free (j := 4) r911
          have g12 := box_free (j := 12) r911
          have g13 := box_free (j := 13) r911
          go_upto_region 14 with fail
          have hE14 : Ext w2 (((w10.setCell ⟨b9, 4, none⟩ (.bool true)).setCell ⟨b9, 12, none⟩ (.slice none 0 0)).setCell ⟨b9, 13, none⟩ (.slice none 0 0)) := ((Ext.setCell (hE29.trans hE10) (p := ⟨b9, 4, none⟩) hb92 _).setCell (p := ⟨b9, 12, none⟩) hb92 _).setCell (p := ⟨b9, 13, none⟩) hb92 _
          have r14 : (((w10.setCell ⟨b9, 4, none⟩ (.bool true)).setCell ⟨b9, 12, none⟩ (.slice none 0 0)).setCell ⟨b9, 13, none⟩ (.slice none 0 0)).heap[b9]? = some (.cells #[.int .u16 m.hd.id, .bool m.hd.qr, .int .u8 m.hd.op, .bool m.hd.aa, .bool true, .bool m.hd.rd, .bool m.hd.ra, .bool m.hd.z, .bool m.hd.ad, .bool m.hd.cd, .int .u8 m.hd.code, .slice qA m.qs.length qc, .slice none 0 0, .slice none 0 0, .slice none 0 0, .bool m.he, .int .u16 m.ed.size, .int .u8 m.ed.ext, .int .u8 m.ed.ver, .int .u16 m.ed.flags, .slice none 0 0] 55) := by
            have a1 := row_set r911 4 (.bool true)
            have a2 := row_set a1 12 (.slice none 0 0)
            exact row_set a2 13 (.slice none 0 0)
          obtain ⟨W14, hX⟩ : ∃ W14, W14 = (((w10.setCell ⟨b9, 4, none⟩ (.bool true)).setCell ⟨b9, 12, none⟩ (.slice none 0 0)).setCell ⟨b9, 13, none⟩ (.slice none 0 0)) := ⟨_, rfl⟩
          rw [← hX] at hE14 r14 ⊢
          clear hX k4 k12 k13 g4 g12 g13
          go_wp2_with (first | (refine wpList_load_part (by rfl) 55 (.tmp 9) rfl b9 0 rfl [.int .u16 m.hd.id, .bool m.hd.qr, .int .u8 m.hd.op, .bool m.hd.aa, .bool true, .bool m.hd.rd, .bool m.hd.ra, .bool m.hd.z, .bool m.hd.ad, .bool m.hd.cd, .int .u8 m.hd.code, .slice qA m.qs.length qc, .slice none 0 0, .slice none 0 0, .slice none 0 0, .bool m.he, .int .u16 m.ed.size, .int .u8 m.ed.ext, .int .u8 m.ed.ver, .int .u16 m.ed.flags, .slice none 0 0] (row_all r14) _ Tryd.underlying55 rfl (by kernel_rfl) ?_) | fail)
          refine (HEncT.out _ hE14).mono ?_
          rintro e w15 ⟨rfl, hE15⟩
          rcases HeT.out with het | het
          · have Het := Lib.hid het
            rw [het]
            clear het
            go_wp2_with fail
            go_ret
            exact ⟨by rw [HR.out]; rfl, (hw2.trans hE14).trans hE15⟩
          · have fe2 : ((encErr (withT m) : Int) == 0) = false := len_ne het
            have hnil := Lib.hid (show encOf (withT m) = [] by unfold encOf; rw [if_neg het])
            clear het
            go_wp2_with fail
            go_ret
            exact ⟨by rw [HR.out, hnil.out]; rfl, (hw2.trans hE14).trans hE15⟩
        · have fe : ((encErr (withR m (recsT sets ttl) (recsT soa ttl)) : Int) == 0) = false := len_ne he
          clear hor he
          have k4 := box_cell (j := 4) r910 rfl
          have k12 := box_cell (j := 12) r910 rfl
          have k13 := box_cell (j := 13) r910 rfl
          have g4 := box_free (j := 4) r910
          have g12 := box_free (j := 12) r910
          have g13 := box_free (j := 13) r910
          go_upto_region 14 with fail
          have hE14 : Ext w2 (((w9.setCell ⟨b9, 4, none⟩ (.bool true)).setCell ⟨b9, 12, none⟩ (.slice none 0 0)).setCell ⟨b9, 13, none⟩ (.slice none 0 0)) := ((Ext.setCell hE29 (p := ⟨b9, 4, none⟩) hb92 _).setCell (p := ⟨b9, 12, none⟩) hb92 _).setCell (p := ⟨b9, 13, none⟩) hb92 _
          have r14 : (((w9.setCell ⟨b9, 4, none⟩ (.bool true)).setCell ⟨b9, 12, none⟩ (.slice none 0 0)).setCell ⟨b9, 13, none⟩ (.slice none 0 0)).heap[b9]? = some (.cells #[.int .u16 m.hd.id, .bool m.hd.qr, .int .u8 m.hd.op, .bool m.hd.aa, .bool true, .bool m.hd.rd, .bool m.hd.ra, .bool m.hd.z, .bool m.hd.ad, .bool m.hd.cd, .int .u8 m.hd.code, .slice qA m.qs.length qc, .slice none 0 0, .slice none 0 0, .slice none 0 0, .bool m.he, .int .u16 m.ed.size, .int .u8 m.ed.ext, .int .u8 m.ed.ver, .int .u16 m.ed.flags, .slice none 0 0] 55) := by
            have a1 := row_set r910 4 (.bool true)
            have a2 := row_set a1 12 (.slice none 0 0)
            exact row_set a2 13 (.slice none 0 0)
          obtain ⟨W14, hX⟩ : ∃ W14, W14 = (((w9.setCell ⟨b9, 4, none⟩ (.bool true)).setCell ⟨b9, 12, none⟩ (.slice none 0 0)).setCell ⟨b9, 13, none⟩ (.slice none 0 0)) := ⟨_, rfl⟩
          rw [← hX] at hE14 r14 ⊢
          clear hX k4 k12 k13 g4 g12 g13
          go_wp2_with (first | (refine wpList_load_part (by rfl) 55 (.tmp 9) rfl b9 0 rfl [.int .u16 m.hd.id, .bool m.hd.qr, .int .u8 m.hd.op, .bool m.hd.aa, .bool true, .bool m.hd.rd, .bool m.hd.ra, .bool m.hd.z, .bool m.hd.ad, .bool m.hd.cd, .int .u8 m.hd.code, .slice qA m.qs.length qc, .slice none 0 0, .slice none 0 0, .slice none 0 0, .bool m.he, .int .u16 m.ed.size, .int .u8 m.ed.ext, .int .u8 m.ed.ver, .int .u16 m.ed.flags, .slice none 0 0] (row_all r14) _ Tryd.underlying55 rfl (by kernel_rfl) ?_) | fail)
          refine (HEncT.out _ hE14).mono ?_
          rintro e w15 ⟨rfl, hE15⟩
          rcases HeT.out with het | het
          · have Het := Lib.hid het
            rw [het]
            clear het
            go_wp2_with fail
            go_ret
            exact ⟨by rw [HR.out]; rfl, (hw2.trans hE14).trans hE15⟩
          · have fe2 : ((encErr (withT m) : Int) == 0) = false := len_ne het
            have hnil := Lib.hid (show encOf (withT m) = [] by unfold encOf; rw [if_neg het])
            clear het
            go_wp2_with fail
            go_ret
            exact ⟨by rw [HR.out, hnil.out]; rfl, (hw2.trans hE14).trans hE15⟩
end Go.Proofs.YtjmfpillnbnofaaDoor
namespace Go.Proofs.YtjmfpillnbnofaaDoor
set_option linter.unusedSimpArgs false
set_option linter.unusedVariables false
set_option maxRecDepth 100000

def qry28 : List UInt8 := [0, 7, 1, 0, 0, 1, 0, 0, 0, 0, 0, 0, 2, 101, 120, 0, 0, 1, 0, 1]
def adrs (n : Nat) : SetD := ⟨[2, 101, 120, 0], 1, 1, 0, (List.range n).map fun i => [10, 0, 0, UInt8.ofNat (i + 1)]⟩
def came28 : CameD := ⟨3, 0, ⟨7, false, 0, false, false, true, false, false, false, false, 0⟩, true, ⟨[2, 101, 120, 0], 1, 1⟩, false, 0⟩
theorem look28 : lookOf qry28 = came28 := by kernel_rfl
theorem code28 : codeOf came28 2 1232 = [0, 7, 129, 130, 0, 1, 0, 0, 0, 0, 0, 0, 2, 101, 120, 0, 0, 1, 0, 1] := by kernel_rfl
theorem of28 : ansOf came28 0 [adrs 1] [] 5 1232 = [0, 7, 129, 128, 0, 1, 0, 1, 0, 0, 0, 0, 2, 101, 120, 0, 0, 1, 0, 1, 192, 12, 0, 1, 0, 1, 0, 0, 0, 5, 0, 4, 10, 0, 0, 1] := by kernel_rfl
theorem cut28 : ansOf came28 0 [adrs 31] [] 5 1232 = [0, 7, 131, 128, 0, 1, 0, 0, 0, 0, 0, 0, 2, 101, 120, 0, 0, 1, 0, 1] := by kernel_rfl
end Go.Proofs.YtjmfpillnbnofaaDoor
namespace Go.Proofs.YtjmfpillnbnofaaDoor
set_option linter.unusedSimpArgs false
set_option linter.unusedVariables false
open Go.RowKit
set_option maxRecDepth 100000

def adr (i : Nat) : List UInt8 := [10, 0, 0, UInt8.ofNat (i + 1)]
def adrsTo (k : Nat) : List (List UInt8) := (List.range k).map adr
theorem adrsTo_step (k : Nat) : adrsTo (k + 1) = adrsTo k ++ [adr k] := by unfold adrsTo; rw [List.range_succ, List.map_append]; rfl
theorem adrs_eq (n : Nat) : adrs n = ⟨[2, 101, 120, 0], 1, 1, 0, adrsTo n⟩ := rfl
def AdrPost (n : Nat) (w : World) (e : Ending) (w' : World) : Prop := ∃ v, e = .returned (.agg #[.int .u8 0, v, .slice none 0 0]) ∧ Sets w' 0 v [adrs n] ∧ Ext w w'
set_option maxHeartbeats 4000000 in
theorem law28_addresses (n : Nat) (w : World) (hn : n ≤ 255) : Calls Tryd.prog 7 #[.int .i64 n] w (AdrPost n w) := by
  obtain ⟨i0, hi0, hz0, hz1, hz2⟩ := info_parts info_str
  obtain ⟨X0, hX0⟩ : ∃ X0, X0 = w.alloc (.cells #[.int .u8 0, .slice none 0 0, .slice none 0 0] 34) := ⟨_, rfl⟩
  have hw0 : Ext w X0 := by rw [hX0]; exact (Ext.refl _).alloc _
  have r0 : X0.heap[w.heap.size]? = some (.cells #[.int .u8 0, .slice none 0 0, .slice none 0 0] 34) := by rw [hX0]; exact heap_alloc_new _ _
  have hz := (Array.getElem?_eq_some_iff.1 r0).1
  go_enter Tryd.func7, Tryd.ntmps7
  go_upto_region 1 with fail
  have hzz : w.alloc (.cells #[.int .u8 0, .slice none 0 0, .slice none 0 0] 34) = X0 := hX0.symm
  rw [hzz]
  clear hzz hX0
  go_wp2_with fail
  go_loopw [3, 4] (fun s3 s4 wr => ∃ (k : Nat) (A : Option Addr) (c : Nat), k ≤ n ∧ s4 = .int .i64 ((k : Int) + 1) ∧ s3 = .slice A k c ∧ Own wr X0.heap.size 9 1 A k c ((adrsTo k).map S) ∧ Ext X0 wr) (fun _ s4 _ => n + 1 - (intOf s4).toNat)
  case atStart => exact ⟨0, none, 0, Nat.zero_le _, rfl, rfl, Own.nil _ _ _ _, Ext.refl _⟩
  case round =>
    obtain ⟨k, A, c, hk, rfl, rfl, hown, hE⟩ := hrel
    obtain ⟨wo, rfl⟩ : ∃ wo : World, wo = wr := ⟨_, rfl⟩
    by_cases hlt : k < n
    · have hki : (k : Int) + 1 ≤ (n : Int) := by omega
      obtain ⟨b, hb⟩ : ∃ b : UInt8, b = UInt8.ofNat (k + 1) := ⟨_, rfl⟩
      have hu8 : ((k : Int) + 1) % 256 = (b.toNat : Int) := by rw [hb, UInt8.toNat_ofNat']; omega
      have hrw : Rd (wo.alloc (.cells #[.int .u8 10, .int .u8 0, .int .u8 0, .int .u8 (b.toNat : Int)] 5)) 0 1 (some ⟨wo.heap.size, 0, none⟩) 4 (([10, 0, 0, b] : List UInt8).map U8) := rd_new _ _ rfl _ _ 4 1 rfl
      have hcv := conv_str 4 hrw
      have hbv : (b.toNat : Int) = (k : Int) + 1 := by omega
      rw [hbv] at hcv
      have HAd := Lib.hid (show adr k = [10, 0, 0, b] by rw [hb]; rfl)
      clear hb hrw hbv hu8
      go_wp2_with (first
        | (at_builtin
           go_must (refine wpList_app _ rfl (.tmp 10) (.tmp 15) _ rfl X0.heap.size 9 i0 _ 1 16 Tryd.underlying37 hi0 hz0 hz1 hz2 rfl (by omega) A k c ((adrsTo k).map S) rfl (hown.ext (((Ext.refl _).alloc _).alloc _)) 0 _ 1 1 ([[10, 0, 0, b]].map S) rfl (rd_new _ _ (by simp) _ _ 1 1 rfl) (str_one _) (by omega) (by omega) (by have := hE.size; simp; omega) ?_)
           intro A6 c6 w6 hown6 hg6 hb6 hat6)
        | fail)
      have hE6 : Ext X0 w6 := ((hE.alloc _).alloc _).then hb6 (Nat.le_refl _)
      go_roundw
      case rel =>
        refine ⟨k + 1, A6, c6, by omega, by go_num, rfl, ?_, hE6⟩
        rw [adrsTo_step, List.map_append, HAd.out]
        exact hown6
      case measure => simp [intOf]; omega
    · obtain rfl : k = n := by omega
      have hr0 := (hE.block _ hz).trans r0
      have hcap := hown.cap
      have hrd := hown.rd
      obtain ⟨W1, hW1⟩ : ∃ W1, W1 = wo.alloc (.cells (setCells (adrs k, .slice A k c)).toArray 39) := ⟨_, rfl⟩
      have hE1 : Ext wo W1 := by rw [hW1]; exact (Ext.refl _).alloc _
      have rs : W1.heap[wo.heap.size]? = some (.cells (setCells (adrs k, .slice A k c)).toArray 39) := by rw [hW1]; exact heap_alloc_new _ _
      have hr1 := (hE1.block _ (Array.getElem?_eq_some_iff.1 hr0).1).trans hr0
      have hzz : wo.alloc (.cells #[S [2, 101, 120, 0], .int .u16 1, .int .u16 1, .int .u32 0, .slice A k c] 39) = W1 := hW1.symm
      have hki : ¬ (k : Int) + 1 ≤ (k : Int) := by omega
      clear hW1
      go_upto_region 6 with fail
      refine wp_region_lit ?_
      iterate 12 go_step
      refine Go.wpList_store_rowTo rfl 34 (.tmp 2) (.tmp 20) rfl rfl w.heap.size #[.int .u8 0, .slice (some ⟨wo.heap.size, 0, none⟩) 1 1, .slice none 0 0] rfl rfl 34 _ hr1 (by kernel_rfl) rfl (by kernel_rfl) ?_
      refine wpList_nil ?_
      go_wp2_with fail
      (try simp only [Exit.inBlock, Exit.then])
      refine bodyPost_ret (results_cell_row rfl _ _ w.heap.size _ _ _ _ rfl (setRow_heap W1 w.heap.size _ _ _ _ hr1) Tryd.underlying34 rfl (by kernel_rfl)) rfl ?_
      have hw1 : Ext w W1 := (hw0.trans hE).trans hE1
      have gr := grown_row W1 w.heap.size #[.int .u8 0, .slice (some ⟨wo.heap.size, 0, none⟩) 1 1, .slice none 0 0]
      have hfin := Below.grown hw1 gr hw1.size (fun k hk => by injection hk with hk; omega)
      have hXo := hE.size
      have rs2 := (gr.block _ (Array.getElem?_eq_some_iff.1 rs).1 (fun e => by injection e with e; omega)).trans rs
      have hown2 := (hown.ext hE1).kept gr (.inr fun he => by have := (hown.blk _ he).1; omega)
      have hal : (adrsTo k).length = k := by unfold adrsTo; rw [List.length_map, List.length_range]
      refine ⟨_, rfl, ⟨[(adrs k, .slice A k c)], some ⟨wo.heap.size, 0, none⟩, 1, rfl, rfl, Nat.le_refl _, by unfold maxLen; decide, ⟨rfl, fun _ => ⟨wo.heap.size, 0, rfl, Nat.zero_le _, (Array.getElem?_eq_some_iff.1 rs2).1, fun j u hu => by
        rw [Nat.zero_add]
        exact box_cell (j := j) rs2 (by simpa using hu)⟩⟩, fun p hp => ?_⟩, hfin⟩
      rw [List.mem_singleton] at hp
      subst hp
      exact ⟨A, c, by rw [adrs_eq]; dsimp only; rw [hal], by rw [adrs_eq]; dsimp only; rw [hal]; exact hcap.1, hcap.2, by rw [adrs_eq]; dsimp only; rw [hal]; exact hown2.rd.lower (Nat.zero_le _)⟩
theorem came28_wf : came28.wf := ⟨⟨by decide, by decide⟩, ⟨by decide, by decide⟩, ⟨⟨by decide, by decide⟩, by decide, by decide⟩⟩
theorem adrs_ok (n : Nat) (hn : n ≤ 255) : SetsOk7 [adrs n] := by
  have hal : (adrsTo n).length = n := by unfold adrsTo; rw [List.length_map, List.length_range]
  refine ⟨by simp, fun s hs => ?_, fun s hs => ?_⟩
  · rw [List.mem_singleton] at hs
    subst hs
    rw [adrs_eq]
    refine ⟨by dsimp only; simp, by dsimp only; omega, fun d hd => ?_⟩
    dsimp only at hd
    unfold adrsTo at hd
    obtain ⟨i, _, rfl⟩ := List.mem_map.1 hd
    simp [adr]
  · rw [List.mem_singleton] at hs
    subst hs
    rw [adrs_eq]
    exact ⟨⟨(by decide : (0 : Int) ≤ 1), (by decide : (1 : Int) ≤ 65535)⟩, (by decide : (0 : Int) ≤ 1), (by decide : (1 : Int) ≤ 65535)⟩
theorem soa_nil : SetsOk7 [] := ⟨by simp, (fun s hs => by cases hs), (fun s hs => by cases hs)⟩
theorem sets_nil (w : World) : Sets w 0 (.slice none 0 0) [] := ⟨[], none, 0, rfl, rfl, Nat.le_refl _, Nat.zero_le _, ⟨rfl, fun h => absurd h (Nat.lt_irrefl _)⟩, fun p hp => by cases hp⟩
def AwPost (w : World) (e : Ending) (w' : World) : Prop := e = .returned (.bool true) ∧ Ext w w'
set_option maxHeartbeats 4000000 in
theorem law28_awake (w : World) (hg : Laid w) (hb : BitsAt w) : Calls Tryd.prog 4 #[] w (AwPost w) := by
  have HL := Lib.hid (int_look qry28 w hg hb (by decide))
  rw [look28] at HL
  have HC := Lib.hid (fun V (hV : Ext w V) => ans_code came28 2 1232 V (hg.ext hV) (hb.ext hV) came28_wf (by decide))
  rw [code28] at HC
  have HA := Lib.hid (fun n V (hn : n ≤ 255) => law28_addresses n V hn)
  have HO1 := Lib.hid (fun V v (hV : Ext w V) (hv : Sets V 0 v [adrs 1]) => ans_of came28 0 v (.slice none 0 0) [adrs 1] [] 5 1232 V (hg.ext hV) (hb.ext hV) came28_wf (by decide) hv (sets_nil V) (adrs_ok 1 (by omega)) soa_nil ⟨by decide, by decide⟩)
  rw [of28] at HO1
  have HO2 := Lib.hid (fun V v (hV : Ext w V) (hv : Sets V 0 v [adrs 31]) => ans_of came28 0 v (.slice none 0 0) [adrs 31] [] 5 1232 V (hg.ext hV) (hb.ext hV) came28_wf (by decide) hv (sets_nil V) (adrs_ok 31 (by omega)) soa_nil ⟨by decide, by decide⟩)
  rw [cut28] at HO2
  go_enter Tryd.func4, Tryd.ntmps4
  go_upto_region 1 with fail
  refine wp_region_lit ?_
  iterate 2 go_step
  refine HL.out.mono ?_
  rintro e w1 ⟨rfl, hE1⟩
  dsimp only
  iterate 1 go_step
  obtain ⟨b1, hb1⟩ : ∃ b1, b1 = w1.heap.size := ⟨_, rfl⟩
  have hz1 : (w1.alloc (.cells cameZ 29)).heap[b1]? = some (.cells cameZ 29) := by rw [hb1]; exact heap_alloc_new _ _
  refine Go.Great.wpList_allocTo rfl (some 1) rfl (.pointer (some ⟨w1.heap.size, 0, none⟩)) (.cells cameZ 29) (by kernel_rfl) ?_
  rw [← hb1]
  refine Go.wpList_store_rowTo rfl 29 (.tmp 1) (.tmp 2) rfl rfl b1 (caRow 3 0 ⟨7, false, 0, false, false, true, false, false, false, false, 0⟩ true ⟨[2, 101, 120, 0], 1, 1⟩ false 0) rfl rfl 29 _ hz1 (by kernel_rfl) rfl (by kernel_rfl) ?_
  rw [alloc_setRow7 w1 cameZ (caRow 3 0 ⟨7, false, 0, false, false, true, false, false, false, false, 0⟩ true ⟨[2, 101, 120, 0], 1, 1⟩ false 0) 29 b1 hb1]
  refine wpList_nil ?_
  have r1 : (w1.alloc (.cells (caRow 3 0 ⟨7, false, 0, false, false, true, false, false, false, false, 0⟩ true ⟨[2, 101, 120, 0], 1, 1⟩ false 0) 29)).heap[b1]? = some (.cells (caRow 3 0 ⟨7, false, 0, false, false, true, false, false, false, false, 0⟩ true ⟨[2, 101, 120, 0], 1, 1⟩ false 0) 29) := by rw [hb1]; exact heap_alloc_new _ _
  have hE2 : Ext w (w1.alloc (.cells (caRow 3 0 ⟨7, false, 0, false, false, true, false, false, false, false, 0⟩ true ⟨[2, 101, 120, 0], 1, 1⟩ false 0) 29)) := hE1.alloc _
  obtain ⟨X1, hX⟩ : ∃ X1, X1 = w1.alloc (.cells (caRow 3 0 ⟨7, false, 0, false, false, true, false, false, false, false, 0⟩ true ⟨[2, 101, 120, 0], 1, 1⟩ false 0) 29) := ⟨_, rfl⟩
  rw [← hX] at r1 hE2 ⊢
  clear hX hz1 hb1
  go_upto_region 2 with fail
  have HR := Lib.hid (fun V (hV : Ext X1 V) => (hV.block b1 (Array.getElem?_eq_some_iff.1 r1).1).trans r1)
  refine wp_region_noPanic ?_
  refine wp_region_tree (S := fun V => V.heap[b1]? = some (.cells (caRow 3 0 ⟨7, false, 0, false, false, true, false, false, false, false, 0⟩ true ⟨[2, 101, 120, 0], 1, 1⟩ false 0) 29)) (.take 0 (.run 1 (.take 2 (.take 3 (.take 4 (.run 5 (.run 6 (.take 7 (.take 8 (.take 9 (.take 10 (.run 11 (.run 12 (.take 13 (.take 14 (.take 15 .done)))))))))))))))) (by kernel_rfl) (by kernel_rfl) (fun _ _ _ _ _ h => h) r1 ?_
  repeat ((with_reducible refine treeIs ?_); first
    | (refine treeTake (v := ?_) (by rfl) (by rfl) ?_ ?_; rotate_left; (focus (intro V hV; refine exec_load_part 29 (.tmp 1) ?_ b1 0 ?_ [.int .u8 3, .int .i64 0, .int .u16 7, .bool false, .int .u8 0, .bool false, .bool false, .bool true, .bool false, .bool false, .bool false, .bool false, .int .u8 0, .bool true, S [2, 101, 120, 0], .int .u16 1, .int .u16 1, .bool false, .int .i64 0] (row_all hV) _ Tryd.underlying29 ?_ ?_; (focus rfl); (focus rfl); (focus rfl); (focus kernel_rfl))); (try simp only [Act.put, List.setIfInBounds_toArray, List.set_cons_zero, List.set_cons_succ]))
    | (refine treeTake (v := ?_) (by rfl) (by rfl) ?_ ?_; rotate_left; (focus (intro V hV; (try dsimp only at hV); (go_simp <;> with_reducible rfl))); (try simp only [Act.put, List.setIfInBounds_toArray, List.set_cons_zero, List.set_cons_succ])))
  refine treeRun (by rfl) (fun K hK => ?_)
  go_simp
  refine (HC.out _ hE2.drew).mono ?_
  rintro e w3 ⟨rfl, hE3'⟩
  have hE3 : Ext X1 w3 := Ext.trans ((Ext.refl X1).drew) hE3'
  refine hK.out _ _ (HR.out _ hE3) ?_
  clear hK K
  (try simp only [Act.put, List.setIfInBounds_toArray, List.set_cons_zero, List.set_cons_succ])
  repeat ((with_reducible refine treeIs ?_); first
    | (refine treeTake (v := ?_) (by rfl) (by rfl) ?_ ?_; rotate_left; (focus (intro V hV; refine exec_load_part 29 (.tmp 1) ?_ b1 0 ?_ [.int .u8 3, .int .i64 0, .int .u16 7, .bool false, .int .u8 0, .bool false, .bool false, .bool true, .bool false, .bool false, .bool false, .bool false, .int .u8 0, .bool true, S [2, 101, 120, 0], .int .u16 1, .int .u16 1, .bool false, .int .i64 0] (row_all hV) _ Tryd.underlying29 ?_ ?_; (focus rfl); (focus rfl); (focus rfl); (focus kernel_rfl))); (try simp only [Act.put, List.setIfInBounds_toArray, List.set_cons_zero, List.set_cons_succ]))
    | (refine treeTake (v := ?_) (by rfl) (by rfl) ?_ ?_; rotate_left; (focus (intro V hV; (try dsimp only at hV); (go_simp <;> with_reducible rfl))); (try simp only [Act.put, List.setIfInBounds_toArray, List.set_cons_zero, List.set_cons_succ])))
  refine treeRun (by rfl) (fun K hK => ?_)
  go_simp
  refine (HA.out 1 w3 (by omega)).mono ?_
  rintro e w4 ⟨v1, rfl, hs1, hE4'⟩
  have hE4 : Ext X1 w4 := hE3.trans hE4'
  refine hK.out _ _ (HR.out _ hE4) ?_
  clear hK K
  (try simp only [Act.put, List.setIfInBounds_toArray, List.set_cons_zero, List.set_cons_succ])
  refine treeRun (by rfl) (fun K hK => ?_)
  go_simp
  refine (HO1.out w4 v1 (hE2.trans hE4) hs1).mono ?_
  rintro e w5 ⟨rfl, hE5'⟩
  have hE5 : Ext X1 w5 := hE4.trans hE5'
  refine hK.out _ _ (HR.out _ hE5) ?_
  clear hK K
  (try simp only [Act.put, List.setIfInBounds_toArray, List.set_cons_zero, List.set_cons_succ])
  repeat ((with_reducible refine treeIs ?_); first
    | (refine treeTake (v := ?_) (by rfl) (by rfl) ?_ ?_; rotate_left; (focus (intro V hV; refine exec_load_part 29 (.tmp 1) ?_ b1 0 ?_ [.int .u8 3, .int .i64 0, .int .u16 7, .bool false, .int .u8 0, .bool false, .bool false, .bool true, .bool false, .bool false, .bool false, .bool false, .int .u8 0, .bool true, S [2, 101, 120, 0], .int .u16 1, .int .u16 1, .bool false, .int .i64 0] (row_all hV) _ Tryd.underlying29 ?_ ?_; (focus rfl); (focus rfl); (focus rfl); (focus kernel_rfl))); (try simp only [Act.put, List.setIfInBounds_toArray, List.set_cons_zero, List.set_cons_succ]))
    | (refine treeTake (v := ?_) (by rfl) (by rfl) ?_ ?_; rotate_left; (focus (intro V hV; (try dsimp only at hV); (go_simp <;> with_reducible rfl))); (try simp only [Act.put, List.setIfInBounds_toArray, List.set_cons_zero, List.set_cons_succ])))
  refine treeRun (by rfl) (fun K hK => ?_)
  go_simp
  refine (HA.out 31 w5 (by omega)).mono ?_
  rintro e w6 ⟨v2, rfl, hs2, hE6'⟩
  have hE6 : Ext X1 w6 := hE5.trans hE6'
  refine hK.out _ _ (HR.out _ hE6) ?_
  clear hK K
  (try simp only [Act.put, List.setIfInBounds_toArray, List.set_cons_zero, List.set_cons_succ])
  refine treeRun (by rfl) (fun K hK => ?_)
  go_simp
  refine (HO2.out w6 v2 (hE2.trans hE6) hs2).mono ?_
  rintro e w7 ⟨rfl, hE7'⟩
  have hE7 : Ext X1 w7 := hE6.trans hE7'
  refine hK.out _ _ (HR.out _ hE7) ?_
  clear hK K
  (try simp only [Act.put, List.setIfInBounds_toArray, List.set_cons_zero, List.set_cons_succ])
  repeat ((with_reducible refine treeIs ?_); first
    | (refine treeTake (v := ?_) (by rfl) (by rfl) ?_ ?_; rotate_left; (focus (intro V hV; refine exec_load_part 29 (.tmp 1) ?_ b1 0 ?_ [.int .u8 3, .int .i64 0, .int .u16 7, .bool false, .int .u8 0, .bool false, .bool false, .bool true, .bool false, .bool false, .bool false, .bool false, .int .u8 0, .bool true, S [2, 101, 120, 0], .int .u16 1, .int .u16 1, .bool false, .int .i64 0] (row_all hV) _ Tryd.underlying29 ?_ ?_; (focus rfl); (focus rfl); (focus rfl); (focus kernel_rfl))); (try simp only [Act.put, List.setIfInBounds_toArray, List.set_cons_zero, List.set_cons_succ]))
    | (refine treeTake (v := ?_) (by rfl) (by rfl) ?_ ?_; rotate_left; (focus (intro V hV; (try dsimp only at hV); (go_simp <;> with_reducible rfl))); (try simp only [Act.put, List.setIfInBounds_toArray, List.set_cons_zero, List.set_cons_succ])))
  refine treeDone ?_
  refine NoPanic.normal ?_
  go_wp2_with fail
  go_ret
  exact ⟨rfl, hE2.trans hE7⟩
end Go.Proofs.YtjmfpillnbnofaaDoor
