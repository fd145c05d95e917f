/- slices.SortFunc at []api.Set by rrset.compare. The contract is the shelf's. -/
import Derived.Test.YthdlgmfeicikpaaGreatDoorSort8
import Derived.Test.YthdlgmfeicikpaaGreatDoorPlOrd
import Derived.Shelf.SlSortCmp.WholeK
import Derived.Shelf.SlSortCmp.NoneTotal
namespace Go.Proofs.YthdlgmfeicikpaaGreatDoor
set_option linter.unusedSimpArgs false
set_option linter.unusedVariables false
open Go.RowKit Go.Sort Go.Lib
set_option maxRecDepth 100000

def SetOk (p : SetD × Value) : Prop := may p.1.name = true ∧ ∃ A n c, p.2 = .slice A n c
abbrev SetX := { p : SetD × Value // SetOk p }
instance : Inhabited SetX := ⟨⟨(⟨[0], 0, 0, 0, []⟩, .slice none 0 0), by decide, none, 0, 0, rfl⟩⟩
def encX (x : SetX) : List Value := setCells x.1
def cfX (x y : SetX) : Int := cmpS x.1.1 y.1.1
theorem ltX : (ltOf cfX) = fun x y : SetX => decide (cmpK x.1.1 y.1.1 < 0) := by
  funext x y
  unfold ltOf cfX
  rw [cmpS_key x.2.1 y.2.1]
theorem swoX : SWO (ltOf cfX) := by
  rw [ltX]
  exact (good_cmpK.pull (fun x : SetX => x.1.1)).swo
theorem cmpX (blk off size : Nat) (w : World) : CmpLays Tryz.prog 47 #[] encX 5 cfX blk off size w := by
  intro m os dk _ x y
  refine (rrset_compare x.1.1 y.1.1 x.1.2 y.1.2 _ x.2.2 y.2.2 ?_ ?_).mono ?_
  · have := may_le x.2.1; unfold maxLen; omega
  · have := may_le y.2.1; unfold maxLen; omega
  · rintro e w' ⟨rfl, hE⟩
    exact ⟨rfl, hE.grow⟩

theorem list_sub (ps : List (SetD × Value)) (h : ∀ p ∈ ps, SetOk p) : ∃ xs : List SetX, xs.map Subtype.val = ps :=
  ⟨ps.pmap (fun p hp => ⟨p, hp⟩) h, by simp [List.map_pmap]⟩
theorem flat_getK (xs : List SetX) (t : Nat) (h : t < xs.length * 5) : (flatK encX 5 xs.toArray)[t]! = ((xs.map Subtype.val).flatMap setCells)[t]?.getD default := by
  rw [get_flatK _ _ _ t (by simpa using h)]
  have hi : t / 5 < xs.length := by omega
  have hm5 : t / 5 * 5 + t % 5 = t := by omega
  have hm6 : t % 5 < 5 := by omega
  generalize t % 5 = m at *
  have hg := flat_get setCells 5 (fun _ => rfl) (xs.map Subtype.val) (t / 5) m xs[t / 5].1 (by simp [hi]) hm6
  rw [hm5] at hg
  rw [hg]
  have : (setCells xs[t / 5].1)[m]? = some ((setCells xs[t / 5].1)[m]'(by show _ < 5; omega)) := List.getElem?_eq_getElem _
  rw [this]
  simp [encX, hi, getElem!_def, this]

/-- Ascending, by the order of sets. -/
def RisesW (l : List SetD) : Prop := l.Pairwise fun a b => ¬ cmpK b a < 0
def SortFPost (w : World) (lo c : Nat) (A : Option Addr) (ps : List (SetD × Value)) (e : Ending) (w' : World) : Prop :=
  e = .returned (.tuple #[]) ∧ ∃ ps' : List (SetD × Value), ps'.Perm ps ∧ RisesW (ps'.map Prod.fst) ∧ Own w' lo 27 5 A ps.length c (ps'.flatMap setCells) ∧ w.grownBy w' (Value.slice A ps.length c).ownBlock

theorem sl_sortFunc (lo : Nat) (A : Option Addr) (c : Nat) (ps : List (SetD × Value)) (w : World) (ho : Own w lo 27 5 A ps.length c (ps.flatMap setCells)) (hok : ∀ p ∈ ps, SetOk p) (h0 : 0 < ps.length) (hb : ps.length < 4611686018427387904) :
    Calls Tryz.prog 46 #[.slice A ps.length c, .func (.func 47) #[] #[]] w (SortFPost w lo c A ps) := by
  obtain ⟨g, rfl, _, hgz, hf, hc⟩ := ho.addr h0
  obtain ⟨xs, rfl⟩ := list_sub ps hok
  simp only [List.length_map] at *
  have hH : HoldsK encX 5 w g 0 xs.toArray := by
    intro j hj
    have hj' : j < xs.length * 5 := by simpa using hj
    rw [Nat.zero_add]
    refine ⟨?_, hf j⟩
    have hfl : ((xs.map Subtype.val).flatMap setCells).length = xs.length * 5 := by have := ho.1; simpa using this
    have hg : ((xs.map Subtype.val).flatMap setCells)[j]? = some (((xs.map Subtype.val).flatMap setCells)[j]'(by omega)) := List.getElem?_eq_getElem (by omega)
    rw [hc j _ hg, flat_getK xs j hj', hg]
    rfl
  have hcon := AnyQ.slices_SortFunc Tryz.sortSet 5 Tryz.isAgg27 Tryz.sizeOf27 encX (fun _ => rfl) (fun x v hv => by
      obtain ⟨p, hp⟩ := x
      obtain ⟨⟨pn, pt, pc, pl, pd⟩, pv⟩ := p
      obtain ⟨_, A, n, c, e⟩ := hp
      dsimp only at e
      subst e
      simp only [encX, setCells, List.mem_cons, List.not_mem_nil, or_false] at hv
      rcases hv with rfl | rfl | rfl | rfl | rfl <;> rfl) cfX swoX 47 #[] g 0 c xs.toArray w (enters_of Tryz.func47 (by kernel_rfl) rfl) (cmpX _ _ _ _) hH hgz (by simpa using hb)
  have hcon' : Calls Tryz.prog 46 #[.slice (some ⟨g, 0, none⟩) xs.length c, .func (.func 47) #[] #[]] w _ := hcon
  refine hcon'.mono ?_
  rintro e w' ⟨rfl, d', n, os, hp, hs, rfl⟩
  obtain ⟨hsz, _, hperm⟩ := hp
  have hsz' : d'.size = xs.length := by simpa using hsz
  have hd : d'.toList.Perm xs := by
    have h1 : d'.extract 0 xs.toArray.size = d' := by rw [show xs.toArray.size = d'.size by rw [hsz]]; exact Array.extract_size
    have h2 : xs.toArray.extract 0 xs.toArray.size = xs.toArray := Array.extract_size
    rw [h1, h2] at hperm
    simpa using hperm
  refine ⟨rfl, d'.toList.map Subtype.val, by simpa using hd.map Subtype.val, ?_, ?_, ?_⟩
  · rw [RisesW, List.map_map, List.pairwise_map, List.pairwise_iff_getElem]
    intro i j hi hj hij
    have hi' : i < d'.size := by simpa using hi
    have hj' : j < d'.size := by simpa using hj
    have := hs i j (Nat.zero_le _) hij (by rw [← hsz]; exact hj')
    rw [ltX] at this
    simp only [decide_eq_false_iff_not] at this
    rw [getElem!_pos d' i hi', getElem!_pos d' j hj'] at this
    simpa using this
  · have hl : (d'.toList.map Subtype.val).length = xs.length := by simp [hsz']
    have := put_own ho n os (flatK encX 5 d').size (fun k => id (flatK encX 5 d')[k]!) xs.length ((d'.toList.map Subtype.val).flatMap setCells) ho.cap.1 (by
      have : ∀ l : List (SetD × Value), (l.flatMap setCells).length = l.length * 5 := fun l => by
        induction l with
        | nil => rfl
        | cons a l ih => rw [List.flatMap_cons, List.length_append, ih, List.length_cons]; show 5 + _ = _; omega
      rw [this, hl]) (by simp [hsz']) (fun j u hu => by
        have hj : j < d'.toList.length * 5 := by
          have := (List.getElem?_eq_some_iff.1 hu).1
          have h3 : ∀ l : List (SetD × Value), (l.flatMap setCells).length = l.length * 5 := fun l => by
            induction l with
            | nil => rfl
            | cons a l ih => rw [List.flatMap_cons, List.length_append, ih, List.length_cons]; show 5 + _ = _; omega
          rw [h3] at this
          simpa using this
        have h4 := flat_getK d'.toList j hj
        rw [Array.toArray_toList, hu] at h4
        exact h4)
    rw [List.length_map]
    exact this
  · exact map_grown w g n os _

theorem sl_sortFunc0 (A : Option Addr) (c : Nat) (w : World) :
    Calls Tryz.prog 46 #[.slice A 0 c, .func (.func 47) #[] #[]] w fun e w' => e = .returned (.tuple #[]) ∧ w' = w :=
  AnyF.slices_SortFunc_none Tryz.sortSet A c _ w
end Go.Proofs.YthdlgmfeicikpaaGreatDoor
