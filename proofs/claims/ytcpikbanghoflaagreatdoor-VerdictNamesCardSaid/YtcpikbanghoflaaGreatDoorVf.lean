/- Contracts of functions and plain lemmas that the proofs of this seat share (joined texts). No condition. -/
import Derived.Test.YtcpikbanghoflaaGreatDoorVe
import Derived.StillTailTactics
import Derived.Deep.RegionLaw
namespace Go.Proofs.YtcpikbanghoflaaGreatDoor
set_option linter.unusedSimpArgs false
set_option linter.unusedVariables false
open Go.RowKit
set_option maxRecDepth 100000
def timeT (t : Int) : Int := if 2147483647 < t then 0 else t
def insB : List (List UInt8) → List UInt8 → List (List UInt8)
  | [], s => [s]
  | x :: r, s => if bl s x then s :: x :: r else x :: insB r s
def putS (l : List (List UInt8)) (s : List UInt8) : List (List UInt8) := if l.contains s then l else insB l s
theorem insB_len (l : List (List UInt8)) (s : List UInt8) : (insB l s).length = l.length + 1 := by
  induction l with
  | nil => rfl
  | cons x r ih => simp only [insB]; split <;> simp [ih]
def beforeS (a b : SetD) : Bool := if cmpN a.name b.name = 0 then (if a.typ = b.typ then decide (a.cls < b.cls) else decide (a.typ < b.typ)) else decide (cmpN a.name b.name < 0)
theorem ne_ints {x y : Int} (h : x ≠ y) : (x == y) = false ∧ (x != y) = true := by
  have : (x == y) = false := by rw [beq_eq_false_iff_ne]; exact h
  exact ⟨this, by rw [bne, this]; rfl⟩
theorem eq_ints {x y : Int} (h : x = y) : (x == y) = true ∧ (x != y) = false := by
  have : (x == y) = true := by rw [beq_iff_eq]; exact h
  exact ⟨this, by rw [bne, this]; rfl⟩

theorem ext_new_at {w w' : World} {cs : Array Value} {t : TypeId} (g : Nat) (hg : g = w.heap.size) (hE : Ext (w.alloc (.cells cs t)) w') : (∀ j, w'.cell? ⟨g, j, none⟩ = cs[j]?) ∧ (∀ j, w'.frozen? ⟨g, j, none⟩ = false) ∧ g < w'.heap.size := by
  subst hg; exact ext_new hE
theorem str_eq {a b : List UInt8} (h : a = b) : (a == b) = true := by rw [h]; simp
theorem ne_nats {x y : Nat} (h : x ≠ y) : ((x : Int) == (y : Int)) = false ∧ ((x : Int) != (y : Int)) = true := ne_ints (by omega)
set_option maxHeartbeats 2000000 in
theorem ref_sameSet (a b : SetD) (d e' : Value) (lo lo' : Nat) (w : World) (hd : Strs w lo d a.data) (he : Strs w lo' e' b.data) :
    Calls Tryz.prog 57 #[setVal a d, setVal b e'] w fun e w' => e = .returned (.bool (decide (a = b))) ∧ Ext w w' := by
  obtain ⟨an, at_, ac, atl, ad⟩ := a
  obtain ⟨bn, bt, bc, btl, bd⟩ := b
  dsimp only at *
  obtain ⟨dA, dc, rfl, hd1, hd2, hrd⟩ := hd
  obtain ⟨eA, ec, rfl, he1, he2, hre⟩ := he
  unfold maxLen at hd2 he2
  obtain ⟨R, hR⟩ : ∃ R, R = decide ((⟨an, at_, ac, atl, ad⟩ : SetD) = ⟨bn, bt, bc, btl, bd⟩) := ⟨_, rfl⟩
  rw [← hR]
  have HR := Lib.hid hR
  clear hR
  by_cases h1 : an ≠ bn
  · have HF := Lib.hid (show R = false by rw [HR.out]; simp [h1])
    have f1 := str_ne h1
    clear h1
    go_enter Tryz.func57, Tryz.ntmps57
    go_wp2_with fail
    go_ret
    exact ⟨ret_bool HF.out.symm, ((Ext.refl _).alloc _).alloc _⟩
  replace h1 := Decidable.not_not.1 h1
  subst h1
  by_cases h2 : at_ ≠ bt
  · have HF := Lib.hid (show R = false by rw [HR.out]; simp [h2])
    obtain ⟨f1, f2⟩ := ne_ints h2
    clear h2
    go_enter Tryz.func57, Tryz.ntmps57
    go_wp2_with fail
    go_ret
    exact ⟨ret_bool HF.out.symm, ((Ext.refl _).alloc _).alloc _⟩
  replace h2 := Decidable.not_not.1 h2
  subst h2
  by_cases h3 : ac ≠ bc
  · have HF := Lib.hid (show R = false by rw [HR.out]; simp [h3])
    obtain ⟨f1, f2⟩ := ne_ints h3
    clear h3
    go_enter Tryz.func57, Tryz.ntmps57
    go_wp2_with fail
    go_ret
    exact ⟨ret_bool HF.out.symm, ((Ext.refl _).alloc _).alloc _⟩
  replace h3 := Decidable.not_not.1 h3
  subst h3
  by_cases h4 : atl ≠ btl
  · have HF := Lib.hid (show R = false by rw [HR.out]; simp [h4])
    obtain ⟨f1, f2⟩ := ne_ints h4
    clear h4
    go_enter Tryz.func57, Tryz.ntmps57
    go_wp2_with fail
    go_ret
    exact ⟨ret_bool HF.out.symm, ((Ext.refl _).alloc _).alloc _⟩
  replace h4 := Decidable.not_not.1 h4
  subst h4
  by_cases h5 : ad.length ≠ bd.length
  · have HF := Lib.hid (show R = false by rw [HR.out, decide_eq_false_iff_not]; intro e; injection e with _ _ _ _ e; exact h5 (by rw [e]))
    obtain ⟨f1, f2⟩ := ne_nats h5
    clear h5
    go_enter Tryz.func57, Tryz.ntmps57
    go_wp2_with fail
    go_ret
    exact ⟨ret_bool HF.out.symm, ((Ext.refl _).alloc _).alloc _⟩
  replace h5 := Decidable.not_not.1 h5
  have HR2 := Lib.hid (show R = decide (ad = bd) by rw [HR.out]; simp)
  rw [← h5] at hre ⊢
  have H5 := Lib.hid h5
  clear h5 HR
  go_enter Tryz.func57, Tryz.ntmps57
  go_wp2_with fail
  go_loopw [5] (fun i wr => ∃ k : Nat, k ≤ ad.length ∧ i = .int .i64 k ∧ ad.take k = bd.take k ∧ Ext ((w.alloc (.cells #[S an, .int .u16 at_, .int .u16 ac, .int .u32 atl, .slice dA ad.length dc] 50)).alloc (.cells #[S an, .int .u16 at_, .int .u16 ac, .int .u32 atl, .slice eA ad.length ec] 50)) wr) (fun i _ => ad.length - (intOf i).toNat)
  case atStart => exact ⟨0, by omega, rfl, rfl, Ext.refl _⟩
  case round =>
    obtain ⟨k, hk, rfl, hrel, hE⟩ := hrel
    obtain ⟨wo, rfl⟩ : ∃ wo : World, wo = wr := ⟨_, rfl⟩
    have HK := Lib.hid hrel
    clear hrel
    have hEw : Ext w wo := (((Ext.refl w).alloc _).alloc _).trans hE
    obtain ⟨hq, hqf, hqz⟩ := ext_new_at (w.heap.size + 1) (by simp) hE
    obtain ⟨hp, hpf, hpz⟩ := ext_new_at w.heap.size rfl (((Ext.refl _).alloc _).trans hE)
    by_cases hlt : k < ad.length
    · have hlt2 : k < bd.length := by rw [← H5.out]; exact hlt
      obtain ⟨b1, o1, rfl, _, hz1, hc1⟩ := hrd.2 (by omega)
      obtain ⟨b2, o2, rfl, _, hz2, hc2⟩ := hre.2 (by omega)
      have c1 := hc1 k (S ad[k]) (by simp [List.getElem?_eq_getElem hlt])
      have c2 := hc2 k (S bd[k]) (by simp [List.getElem?_eq_getElem hlt2])
      rw [← hEw.cell (p := ⟨b1, _, none⟩) hz1] at c1
      rw [← hEw.cell (p := ⟨b2, _, none⟩) hz2] at c2
      obtain ⟨x, hx⟩ : ∃ x, x = ad[k] := ⟨_, rfl⟩
      obtain ⟨y, hy⟩ : ∃ y, y = bd[k] := ⟨_, rfl⟩
      rw [← hx] at c1
      rw [← hy] at c2
      have Hx := Lib.hid hx
      have Hy := Lib.hid hy
      have hki : (k : Int) < (ad.length : Int) := by omega
      have hk0 : (0 : Int) ≤ (k : Int) := by omega
      clear hx hy hc1 hc2 hrd hre
      by_cases hxy : x = y
      · have f1 := str_eq hxy
        have Hxy := Lib.hid hxy
        clear hxy
        go_wp2_with fail
        go_quiet (fail)
        go_wp2_with fail
        go_roundw
        case rel =>
          refine ⟨k + 1, by omega, by go_num, ?_, hE.drewN _⟩
          rw [take_snoc ad k hlt, take_snoc bd k hlt2, HK.out, ← Hx.out, ← Hy.out, Hxy.out]
        case measure => simp [intOf]; omega
      · have f1 := str_ne hxy
        have HF := Lib.hid (show R = false by
          rw [HR2.out, decide_eq_false_iff_not]; intro e; subst e; exact hxy (Hx.out.trans Hy.out.symm))
        clear hxy
        go_wp2_with fail
        go_quiet (fail)
        go_wp2_with fail
        go_ret
        exact ⟨ret_bool HF.out.symm, hEw.drewN _⟩
    · have HF := Lib.hid (show R = true by
        rw [HR2.out, decide_eq_true_eq]
        have := HK.out
        rw [List.take_of_length_le (by omega), List.take_of_length_le (by rw [← H5.out]; omega)] at this
        exact this)
      go_wp2_with fail
      go_ret
      exact ⟨ret_bool HF.out.symm, hEw⟩

theorem pair_get {ps : List (SetD × Value)} {l : List SetD} (h : ps.map Prod.fst = l) {k : Nat} (hk : k < ps.length) (hk' : k < l.length) : l[k] = ps[k].1 := by
  subst h; simp

set_option maxHeartbeats 2000000 in
theorem ref_sameAll (l1 l2 : List SetD) (v1 v2 : Value) (lo1 lo2 : Nat) (w : World) (h1 : Sets w lo1 v1 l1) (h2 : Sets w lo2 v2 l2) :
    Calls Tryz.prog 31 #[v1, v2] w fun e w' => e = .returned (.bool (decide (l1 = l2))) ∧ Ext w w' := by
  obtain ⟨ps, A, c, hl, rfl, h3, h4, hrd, hst⟩ := h1
  obtain ⟨qs, B, d, hm, rfl, h5, h6, hre, hsu⟩ := h2
  unfold maxLen at h4 h6
  have hlen1 : ps.length = l1.length := by rw [← hl]; simp
  have hlen2 : qs.length = l2.length := by rw [← hm]; simp
  obtain ⟨R, hR⟩ : ∃ R, R = decide (l1 = l2) := ⟨_, rfl⟩
  rw [← hR]
  have HR := Lib.hid hR
  clear hR
  by_cases hll : ps.length ≠ qs.length
  · have HF := Lib.hid (show R = false by rw [HR.out, decide_eq_false_iff_not]; intro e; subst e; exact hll (hlen1.trans hlen2.symm))
    obtain ⟨f1, f2⟩ := ne_nats hll
    clear hll hlen1 hlen2 hl hm
    go_enter Tryz.func31, Tryz.ntmps31
    go_wp2_with fail
    go_ret
    exact ⟨ret_bool HF.out.symm, Ext.refl _⟩
  replace hll := Decidable.not_not.1 hll
  rw [← hll] at hre ⊢
  have Hll := Lib.hid hll
  have Hl1 := Lib.hid hlen1
  have Hl2 := Lib.hid hlen2
  have Hl := Lib.hid hl
  have Hm := Lib.hid hm
  clear hll hlen1 hlen2 hl hm
  go_enter Tryz.func31, Tryz.ntmps31
  go_wp2_with fail
  go_loopw [5] (fun i wr => ∃ k : Nat, k ≤ ps.length ∧ i = .int .i64 k ∧ l1.take k = l2.take k ∧ Ext w wr) (fun i _ => ps.length - (intOf i).toNat)
  case atStart => exact ⟨0, by omega, rfl, rfl, Ext.refl _⟩
  case round =>
    obtain ⟨k, hk, rfl, hrel, hE⟩ := hrel
    obtain ⟨wo, rfl⟩ : ∃ wo : World, wo = wr := ⟨_, rfl⟩
    have HK := Lib.hid hrel
    clear hrel
    by_cases hlt : k < ps.length
    · have hltq : k < qs.length := by rw [← Hll.out]; exact hlt
      have hlt1 : k < l1.length := by rw [← Hl1.out]; exact hlt
      have hlt2 : k < l2.length := by rw [← Hl2.out]; exact hltq
      obtain ⟨b1, o1, rfl, _, hz1, hc1⟩ := hrd.2 (by omega)
      obtain ⟨b2, o2, rfl, _, hz2, hc2⟩ := hre.2 (by omega)
      have g1 := sets_cells hc1 k ps[k] (List.getElem?_eq_getElem hlt)
      have g2 := sets_cells hc2 k qs[k] (List.getElem?_eq_getElem hltq)
      have s1 := (hst ps[k] (List.getElem_mem hlt)).ext hE
      have s2 := (hsu qs[k] (List.getElem_mem hltq)).ext hE
      have E1 := Lib.hid (pair_get Hl.out hlt hlt1)
      have E2 := Lib.hid (pair_get Hm.out hltq hlt2)
      generalize ps[k] = p at *
      generalize qs[k] = q at *
      obtain ⟨⟨pn, pt, pc, ptl, pd⟩, pv⟩ := p
      obtain ⟨⟨qn, qt, qc, qtl, qd⟩, qv⟩ := q
      dsimp only at *
      obtain ⟨pA, pcc, rfl⟩ := s1.shape
      obtain ⟨qA, qcc, rfl⟩ := s2.shape
      obtain ⟨x0, x1, x2, x3, x4⟩ := g1
      obtain ⟨y0, y1, y2, y3, y4⟩ := g2
      rw [← hE.cell (p := ⟨b1, _, none⟩) hz1] at x0 x1 x2 x3 x4
      rw [← hE.cell (p := ⟨b2, _, none⟩) hz2] at y0 y1 y2 y3 y4
      have hki : (k : Int) < (ps.length : Int) := by omega
      have hk0 : (0 : Int) ≤ (k : Int) := by omega
      have HC := Lib.hid (fun W (hW : Ext wo W) => ref_sameSet ⟨pn, pt, pc, ptl, pd⟩ ⟨qn, qt, qc, qtl, qd⟩ (.slice pA pd.length pcc) (.slice qA qd.length qcc) lo1 lo2 W (s1.ext hW) (s2.ext hW))
      clear hc1 hc2 hrd hre
      by_cases hxy : (⟨pn, pt, pc, ptl, pd⟩ : SetD) = ⟨qn, qt, qc, qtl, qd⟩
      · have hd : decide ((⟨pn, pt, pc, ptl, pd⟩ : SetD) = ⟨qn, qt, qc, qtl, qd⟩) = true := decide_eq_true hxy
        rw [hd] at HC
        have Hxy := Lib.hid hxy
        clear hxy hd
        go_wp2_with fail
        go_still_tail 8, (by kernel_rfl)
        go_wp2_with fail
        refine (HC.out _ ?hW).mono ?_
        case hW => exact (Ext.refl wo).drew
        rintro e w2 ⟨rfl, hE2⟩
        go_wp2_with fail
        go_roundw
        case rel =>
          refine ⟨k + 1, by omega, by go_num, ?_, hE.trans (((Ext.refl wo).drew).trans hE2)⟩
          rw [take_snoc l1 k hlt1, take_snoc l2 k hlt2, HK.out, E1.out, E2.out, Hxy.out]
        case measure => simp [intOf]; omega
      · have hd : decide ((⟨pn, pt, pc, ptl, pd⟩ : SetD) = ⟨qn, qt, qc, qtl, qd⟩) = false := decide_eq_false hxy
        rw [hd] at HC
        have HF := Lib.hid (show R = false by
          rw [HR.out, decide_eq_false_iff_not]; intro e; subst e; exact hxy (E1.out.symm.trans E2.out))
        clear hxy hd
        go_wp2_with fail
        go_still_tail 8, (by kernel_rfl)
        go_wp2_with fail
        refine (HC.out _ ?hW).mono ?_
        case hW => exact (Ext.refl wo).drew
        rintro e w2 ⟨rfl, hE2⟩
        go_wp2_with fail
        go_ret
        exact ⟨ret_bool HF.out.symm, hE.trans (((Ext.refl wo).drew).trans hE2)⟩
    · have HF := Lib.hid (show R = true by
        rw [HR.out, decide_eq_true_eq]
        have := HK.out
        rw [List.take_of_length_le (by rw [← Hl1.out]; omega), List.take_of_length_le (by rw [← Hl2.out, ← Hll.out]; omega)] at this
        exact this)
      go_wp2_with fail
      go_ret
      exact ⟨ret_bool HF.out.symm, hE⟩
end Go.Proofs.YtcpikbanghoflaaGreatDoor
namespace Go.Proofs.YtcpikbanghoflaaGreatDoor
set_option linter.unusedSimpArgs false
set_option linter.unusedVariables false
open Go.RowKit
set_option maxRecDepth 100000
structure RecD where
  name : List UInt8
  typ : Int
  cls : Int
  ttl : Int
  data : List UInt8
  deriving DecidableEq
def recCells (r : RecD) : List Value := [S r.name, .int .u16 r.typ, .int .u16 r.cls, .int .u32 r.ttl, S r.data]
abbrev recVal (r : RecD) : Value := .agg #[S r.name, .int .u16 r.typ, .int .u16 r.cls, .int .u32 r.ttl, S r.data]
def Recs (w : World) (lo : Nat) (v : Value) (l : List RecD) : Prop := ∃ A c, v = .slice A l.length c ∧ l.length ≤ c ∧ c ≤ maxLen ∧ Rd w lo 5 A l.length (l.flatMap recCells)
theorem Recs.ext {w w' : World} {lo : Nat} {v : Value} {l : List RecD} (h : Recs w lo v l) (hE : Ext w w') : Recs w' lo v l := by
  obtain ⟨A, c, e, h1, h2, h3⟩ := h
  exact ⟨A, c, e, h1, h2, h3.ext hE⟩
theorem Recs.lower {w : World} {lo lo' : Nat} {v : Value} {l : List RecD} (h : Recs w lo v l) (hl : lo' ≤ lo) : Recs w lo' v l := by
  obtain ⟨A, c, e, h1, h2, h3⟩ := h
  exact ⟨A, c, e, h1, h2, h3.lower hl⟩
theorem recs_cells {w : World} {b off : Nat} {l : List RecD} (hc : ∀ j u, (l.flatMap recCells)[j]? = some u → w.cell? ⟨b, off + j, none⟩ = some u) (k : Nat) (p : RecD) (hp : l[k]? = some p) :
    w.cell? ⟨b, off + k * 5, none⟩ = some (S p.name) ∧ w.cell? ⟨b, off + k * 5 + 1, none⟩ = some (.int .u16 p.typ) ∧ w.cell? ⟨b, off + k * 5 + 2, none⟩ = some (.int .u16 p.cls) ∧ w.cell? ⟨b, off + k * 5 + 3, none⟩ = some (.int .u32 p.ttl) ∧ w.cell? ⟨b, off + k * 5 + 4, none⟩ = some (S p.data) := by
  refine ⟨?_, ?_, ?_, ?_, ?_⟩
  · exact hc (k * 5 + 0) _ (flat_get recCells 5 (fun _ => rfl) l k 0 p hp (by omega))
  · rw [Nat.add_assoc]; exact hc (k * 5 + 1) _ (flat_get recCells 5 (fun _ => rfl) l k 1 p hp (by omega))
  · rw [Nat.add_assoc]; exact hc (k * 5 + 2) _ (flat_get recCells 5 (fun _ => rfl) l k 2 p hp (by omega))
  · rw [Nat.add_assoc]; exact hc (k * 5 + 3) _ (flat_get recCells 5 (fun _ => rfl) l k 3 p hp (by omega))
  · rw [Nat.add_assoc]; exact hc (k * 5 + 4) _ (flat_get recCells 5 (fun _ => rfl) l k 4 p hp (by omega))

def keyM (n : List UInt8) (t c : Int) (s : SetD) : Bool := s.name == n && (s.typ == t && s.cls == c)
def atTo (f : SetD → Bool) (l : List SetD) : Nat → Int
  | 0 => -1
  | k + 1 => if f (l.getD k SetD.zero) then (k : Int) else atTo f l k
def updS (t : Int) (d : List UInt8) (s : SetD) : SetD := { s with ttl := min s.ttl t, data := putS s.data d }
def okRec (x : RecD) : Bool := may x.name && rmay x.typ x.data
def addR (sets : List SetD) (x : RecD) : List SetD :=
  if okRec x then
    (if atTo (keyM (fold x.name) x.typ x.cls) sets sets.length < 0 then sets ++ [⟨fold x.name, x.typ, x.cls, timeT x.ttl, [rfold x.typ x.data]⟩]
     else sets.modify (atTo (keyM (fold x.name) x.typ x.cls) sets sets.length).toNat (updS (timeT x.ttl) (rfold x.typ x.data)))
  else sets
def groupTo (l : List RecD) (k : Nat) : List SetD := (l.take k).foldl addR []
theorem groupTo_step (l : List RecD) (k : Nat) (h : k < l.length) : groupTo l (k + 1) = addR (groupTo l k) l[k] := by
  unfold groupTo; rw [take_snoc l k h, List.foldl_append]; rfl
def minTo (l : List SetD) : Nat → Nat
  | 0 => 0
  | i + 1 => if i = 0 then 0 else if beforeS (l.getD i SetD.zero) (l.getD (minTo l i) SetD.zero) then i else minTo l i
theorem minTo_lt (l : List SetD) : ∀ i, 0 < i → minTo l i < i
  | 0, h => absurd h (by omega)
  | i + 1, _ => by
    simp only [minTo]
    split
    · omega
    · split
      · omega
      · have := minTo_lt l i (by omega); omega
def selF : Nat → List SetD → List SetD
  | 0, _ => []
  | n + 1, l => if l.length = 0 then [] else l.getD (minTo l l.length) SetD.zero :: selF n (l.take (minTo l l.length) ++ l.drop (minTo l l.length + 1))
def groupR (l : List RecD) : List SetD := selF l.length (groupTo l l.length)

theorem Own.stored {w : World} {lo : Nat} {e : TypeId} {sz n c g : Nat} {xs : List Value} (h : Own w lo e sz (some ⟨g, 0, none⟩) n c xs) (j : Nat) (u : Value) (hj : j < n * sz) : Own (w.setCell ⟨g, j, none⟩ u) lo e sz (some ⟨g, 0, none⟩) n c (xs.set j u) := by
  refine ⟨by rw [List.length_set]; exact h.1, ?_⟩
  rcases h.2 with ⟨h1, _⟩ | ⟨g', cap, cur, h1, hg, hh, h4, h5, h6, h7⟩
  · injection h1 with h1; cases h1
  · injection h1 with h1 _ h3
    injection h1 with h1
    injection h1 with h1 _ _
    subst h1 h3
    refine .inr ⟨g, c, cur.setIfInBounds j u, rfl, hg, ?_, h4, h5, by simpa using h6, ?_⟩
    · simp [World.setCell, Array.getElem?_modify, hh]
    · rw [Array.toList_setIfInBounds, ← h7, List.take_set]
theorem Own.addr {w : World} {lo : Nat} {e : TypeId} {sz n c : Nat} {A : Option Addr} {xs : List Value} (h : Own w lo e sz A n c xs) (hn : 0 < n) : ∃ g, A = some ⟨g, 0, none⟩ ∧ lo ≤ g ∧ g < w.heap.size ∧ (∀ j, w.frozen? ⟨g, j, none⟩ = false) ∧ (∀ j u, xs[j]? = some u → w.cell? ⟨g, j, none⟩ = some u) := by
  have hr := h.rd
  rcases h.2 with ⟨h1, h2⟩ | ⟨g, cap, cur, h1, hg, hh, h4, h5, h6, h7⟩
  · omega
  · injection h1 with h1 _ h3
    subst h1
    obtain ⟨b, off, e1, _, hb, hc⟩ := hr.2 hn
    injection e1 with e1
    injection e1 with e1 e2 _
    subst e1 e2
    refine ⟨g, rfl, hg, hb, fun j => ?_, fun j u hu => by have := hc j u hu; rwa [Nat.zero_add] at this⟩
    simp [World.frozen?, hh]
theorem OStrs.set_other {w : World} {lo : Nat} {v : Value} {l : List (List UInt8)} (h : OStrs w lo v l) {p : Addr} (u : Value) (hp : v.ownBlock = none ∨ v.ownBlock ≠ some p.block) : OStrs (w.setCell p u) lo v l := by
  obtain ⟨A, c, rfl, ho⟩ := h
  refine ⟨A, c, rfl, ho.1, ?_⟩
  rcases ho.2 with h1 | ⟨g, cap, cur, h1, hg, hh, h4⟩
  · exact .inl h1
  · refine .inr ⟨g, cap, cur, h1, hg, (Below.heap_setCell w p u g (fun e => ?_)).trans hh, h4⟩
    injection h1 with h1
    subst h1
    rcases hp with hp | hp
    · simp [Value.ownBlock] at hp
    · exact hp (by simp [Value.ownBlock, e])
theorem Rd.drew {w : World} {lo size n : Nat} {A : Option Addr} {xs : List Value} (h : Rd w lo size A n xs) : Rd w.drew lo size A n xs := h
theorem set_oneS (s : SetD) (A : Option Addr) (n c : Nat) : ∀ u ∈ setCells (s, .slice A n c), u.oneCell' = true := by
  intro u hu
  simp only [setCells, List.mem_cons, List.not_mem_nil, or_false] at hu
  rcases hu with rfl | rfl | rfl | rfl | rfl <;> rfl
section
variable {P : Program} (w : World)
theorem step_app {ops : Array Oper} {o : Oper} {a : Act} {K : Act → World → Prop} {Q : Exit → Act → World → Prop} {E : Prop} (hgd : o.guard = none) (s x : Operand) (t : TypeId)
    (ho : o.op = .call { callee := .builtin .append, args := #[s, x], argTypes := #[t, t] })
    (lo : Nat) (e : TypeId) (i : TypeInfo) (z : Value) (sz bytes : Nat) (ht : P.underlying t = some (.slice e)) (hi : P.info? e = some i) (hz : i.zero = some z)
    (hsize : i.size = sz) (hby : i.bytes = bytes) (hzs : z.cells.size = sz) (hsz : 0 < sz)
    (A : Option Addr) (n c : Nat) (xs : List Value) (hs : a.eval s = .slice A n c) (hown : Own w lo e sz A n c xs)
    (l2 : Nat) (B : Option Addr) (m d : Nat) (news : List Value) (hx : a.eval x = .slice B m d) (hr : Rd w l2 sz B m news) (h1 : ∀ u ∈ news, u.oneCell' = true)
    (hbytes : (n + m) * bytes ≤ 140737488355328) (hb0 : 0 < bytes) (hbase : lo ≤ w.heap.size)
    (h : ∀ A' c' w', Own w' lo e sz A' (n + m) c' (xs ++ news) → w.grownBy w' (Value.slice A n c).ownBlock → Below lo w w' →
      ((Value.slice A' (n + m) c').ownBlock = (Value.slice A n c).ownBlock ∨ (Value.slice A' (n + m) c').ownBlock = some w.heap.size) → K (a.put o.dst (.slice A' (n + m) c')) w') :
    if Region.wanted o (yielded ops a.tmps) = true then Oper.wp P o a w K Q else E := by
  have hw : Region.wanted o (yielded ops a.tmps) = true := by simp [Region.wanted, hgd]
  rw [if_pos hw]
  obtain ⟨A', c', w', hrun, h2, h3, h4, h5⟩ := run_app (P := P) w lo t o.type e i z sz bytes ht hi hz hsize hby hzs hsz A n c xs hown l2 B m d news hr h1 hbytes hb0 hbase
  unfold Oper.wp execOp
  simp only [ho, resolve, invoke, builtin, Sem.run_bind, Sem.run_pure, Result.andThen_ok, List.map_toArray, List.map_cons, List.map_nil, hs, hx, hrun]
  exact h A' c' w' h2 h3 h4 h5
end
theorem flat_set (ps : List (SetD × Value)) (k : Nat) (p q : SetD × Value) (j : Nat) (u : Value) (hp : ps[k]? = some p) (hj : j < 5) (hq : (setCells p).set j u = setCells q) : (ps.flatMap setCells).set (k * 5 + j) u = (ps.set k q).flatMap setCells := by
  induction ps generalizing k with
  | nil => simp at hp
  | cons a ps ih =>
    rcases k with _ | k
    · simp at hp; subst hp
      rw [List.set_cons_zero, List.flatMap_cons, List.flatMap_cons, Nat.zero_mul, Nat.zero_add, List.set_append_left _ _ (by simpa [setCells] using hj), hq]
    · simp only [List.getElem?_cons_succ] at hp
      have hl : (setCells a).length = 5 := rfl
      rw [List.set_cons_succ, List.flatMap_cons, List.flatMap_cons, List.set_append_right _ _ (by rw [hl, Nat.add_mul]; omega), hl, show (k + 1) * 5 + j - 5 = k * 5 + j by rw [Nat.add_mul]; omega, ih k hp]
end Go.Proofs.YtcpikbanghoflaaGreatDoor
