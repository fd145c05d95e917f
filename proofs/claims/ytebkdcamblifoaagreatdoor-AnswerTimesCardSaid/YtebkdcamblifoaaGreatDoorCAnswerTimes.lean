/- hustingslaw28.AnswerTimes returns true for every input, and every argument reads behind the call as it read before; the listed variables are tied to the program's text. No condition of ours. -/
import Derived.Test.YtebkdcamblifoaaGreatDoorBrz
import Derived.Test.YtebkdcamblifoaaGreatDoorBrr
import Derived.Test.YtebkdcamblifoaaGreatDoorBhx
import Derived.Test.YtebkdcamblifoaaGreatDoorBc7
import Derived.Carry
namespace Go.Proofs.YtebkdcamblifoaaGreatDoor
set_option linter.unusedSimpArgs false
set_option linter.unusedVariables false
open Go.RowKit
set_option maxRecDepth 100000

theorem sets_cell1 {w : World} {lo : Nat} (l : List (SetD × Value)) (h : ∀ p ∈ l, Strs w lo p.2 p.1.data) : ∀ u ∈ l.flatMap setCells, u.oneCell' = true := by
  intro u hu
  obtain ⟨⟨s, v⟩, hp, hu⟩ := List.mem_flatMap.1 hu
  obtain ⟨A, c, e, _⟩ := h _ hp
  dsimp only at e
  subst e
  exact set_oneS s A _ c u hu
def ttlP (t : Int) (p : SetD × Value) : SetD × Value := ({ p.1 with ttl := t }, p.2)
theorem set_flat5 (a b : List (SetD × Value)) (p : SetD × Value) (u : Int) : ((a ++ p :: b).flatMap setCells).set (a.length * 5 + 3) (.int .u32 u) = (a ++ ttlP u p :: b).flatMap setCells := by
  have hl : (a.flatMap setCells).length = a.length * 5 := by
    induction a with
    | nil => rfl
    | cons x a ih => rw [List.flatMap_cons, List.length_append, ih, List.length_cons]; show 5 + _ = _; omega
  rw [List.flatMap_append, List.flatMap_append, List.flatMap_cons, List.flatMap_cons, List.set_append_right _ _ (by omega), hl, Nat.add_sub_cancel_left]
  rfl
theorem ttlP_set (t : Int) (l : List (SetD × Value)) (k : Nat) (h : k < l.length) : (((l.take k).map (ttlP t) ++ l.drop k).flatMap setCells).set (k * 5 + 3) (.int .u32 t) = ((l.take (k + 1)).map (ttlP t) ++ l.drop (k + 1)).flatMap setCells := by
  have h1 := set_flat5 ((l.take k).map (ttlP t)) (l.drop (k + 1)) l[k] t
  have hk : ((l.take k).map (ttlP t)).length = k := by rw [List.length_map, List.length_take]; omega
  rw [hk] at h1
  rw [List.drop_eq_getElem_cons h, h1, take_snoc l k h, List.map_append]
  simp
theorem own_cell {w : World} {lo g n c sz : Nat} {e : TypeId} {xs : List Value} (h : Own w lo e sz (some ⟨g, 0, none⟩) n c xs) (j : Nat) (hj : j < n * sz) : ∃ v, w.frozen? ⟨g, j, none⟩ = false ∧ w.cell? ⟨g, j, none⟩ = some v := by
  have hl := h.1
  rcases h.2 with ⟨h1, _⟩ | ⟨g', cap, cur, h1, hg, hh, h4, h5, h6, h7⟩
  · injection h1 with h1; cases h1
  · injection h1 with h1 _ _
    injection h1 with h1
    injection h1 with h1 _ _
    subst h1
    have hlt : j < cur.size := by
      have h8 := congrArg List.length h7
      rw [List.length_take, hl] at h8
      simp at h8
      omega
    exact ⟨cur[j], by simp [World.frozen?, hh], by simp [World.cell?, hh, hlt]⟩
theorem bare_sets {w wo : World} {lo : Nat} {e : TypeId} {A : Option Addr} {c : Nat} (sps : List (SetD × Value)) (sets : List SetD) (oth : Int) (hsp : sps.map Prod.fst = sets) (hst : ∀ p ∈ sps, Strs w 0 p.2 p.1.data) (hE : Ext w wo)
    (ho : Own wo lo e 5 A sps.length c (((sps.take sps.length).map (ttlP oth) ++ sps.drop sps.length).flatMap setCells)) : Sets wo 0 (.slice A sps.length c) (sets.map fun s => { s with ttl := oth }) := by
  rw [List.take_length, List.drop_length, List.append_nil] at ho
  refine ⟨sps.map (ttlP oth), A, c, ?_, ?_, ?_, ho.cap.2, ?_, ?_⟩
  · rw [← hsp, List.map_map, List.map_map]; rfl
  · rw [List.length_map]
  · rw [List.length_map]; exact ho.cap.1
  · rw [List.length_map]; exact ho.rd.lower (Nat.zero_le _)
  · intro p hp
    obtain ⟨q, hq, rfl⟩ := List.mem_map.1 hp
    exact (hst q hq).ext hE
theorem smL_bare {l : List SetD} (u : Int) (h : SmL l) : SmL (l.map fun s => { s with ttl := u }) :=
  ⟨by rw [List.length_map]; exact h.1, fun s hs => by obtain ⟨x, hx, rfl⟩ := List.mem_map.1 hs; exact h.2 x hx⟩
theorem wf_bare {l : List SetD} (u : Int) (h : ∀ s ∈ l, s.wfT) : ∀ s ∈ l.map (fun s => { s with ttl := u }), s.wfT := fun s hs => by
  obtain ⟨x, hx, rfl⟩ := List.mem_map.1 hs; exact h x hx
theorem ansOf_bare (c : CameD) (code : Int) (sets soa : List SetD) (ttl size u : Int) : ansOf c code (sets.map fun s => { s with ttl := u }) soa ttl size = ansOf c code sets soa ttl size := by
  have h : fullOf c code (sets.map fun s => { s with ttl := u }) soa ttl size = fullOf c code sets soa ttl size := by
    unfold fullOf; rw [recsT_sets _ _ (fun s => rfl)]
  have hM : ansMay c code (sets.map fun s => { s with ttl := u }) soa ttl size ↔ ansMay c code sets soa ttl size := Iff.rfl
  have hR : roomy c code (sets.map fun s => { s with ttl := u }) soa ttl size ↔ roomy c code sets soa ttl size := by unfold roomy; rw [h]
  unfold ansOf
  rw [h]
  simp only [hM, hR]
theorem times_plain {d : List UInt8} {c : CameD} (hc : LookOk d c) {code : Int} {sets soa : List SetD} {ttl oth size : Int} (h1 : ∀ s ∈ sets, s.wfT) (h2 : ∀ s ∈ soa, s.wfT) (ht : 0 ≤ ttl ∧ ttl ≤ 4294967295) (ho : 0 ≤ oth ∧ oth ≤ 4294967295) (hom : oth ≤ 2147483647)
    (h : ansOf c code sets soa ttl size ≠ []) : ∃ m, decR (ansOf c code sets soa ttl size) = .ok m ∧ decR (ansOf c code sets soa oth size) = .ok { m with ans := m.ans.map (timedR oth), auth := m.auth.map (timedR oth) } ∧
    (ansOf c code sets soa ttl size).length = (ansOf c code sets soa oth size).length ∧ (ansOf c code sets soa ttl size).length ≤ 65535 ∧ (ansOf c code sets soa oth size).length ≤ 65535 ∧ m.ans.map (timedR ttl) = m.ans ∧ m.auth.map (timedR ttl) = m.auth ∧ m.ans.length ≤ 65535 ∧ m.auth.length ≤ 65535 := by
  obtain ⟨⟨hM, hm⟩, hor⟩ := ans_read hc h1 h2 ht h
  obtain ⟨hf1, hf2⟩ := full_ttl c code sets soa ttl oth size
  have hM2 : ansMay c code sets soa oth size := ⟨hM.1, hM.2.1, hM.2.2.1, hom⟩
  have hrt := room_ttl c code sets soa ttl oth size
  have hg2 : ansMay c code sets soa oth size ∧ mayM (fullOf c code sets soa oth size) = true := ⟨hM2, hf1.trans hm⟩
  rcases hor with ⟨hr, e, hd, _⟩ | ⟨hr, e, hd, hl⟩
  · have hr2 := hrt.2 hr
    have hn2 : ansOf c code sets soa oth size = encOf (fullOf c code sets soa oth size) := by unfold ansOf; rw [if_pos hg2, if_pos hr2]
    have hne2 : ansOf c code sets soa oth size ≠ [] := by rw [hn2]; exact enc_ne hr2.1
    obtain ⟨_, hor2⟩ := ans_read hc h1 h2 ho hne2
    rcases hor2 with ⟨_, _, hd2, _⟩ | ⟨hr3, _⟩
    · have e1 := (enc_may hr.1).2
      have e2 := (enc_may hr2.1).2
      have hll : (ansOf c code sets soa ttl size).length = (ansOf c code sets soa oth size).length := by rw [e, hn2, e1.2, e2.2, hf2]
      have hl1 : (ansOf c code sets soa ttl size).length ≤ 65535 := by rw [e, e1.2]; exact e1.1
      have hml : (fullOf c code sets soa ttl size).ans.length ≤ 65535 ∧ (fullOf c code sets soa ttl size).auth.length ≤ 65535 := by
        unfold mayM at hm
        simp only [Bool.and_eq_true, decide_eq_true_eq] at hm
        omega
      refine ⟨_, hd, ?_, hll, hl1, by omega, (recsT_ttl sets ttl ttl).symm, (recsT_ttl soa ttl ttl).symm, hml.1, hml.2⟩
      rw [hd2]; unfold fullOf; rw [recsT_ttl sets ttl oth, recsT_ttl soa ttl oth]; rfl
    · exact absurd hr2 hr3
  · have hr2 : ¬ roomy c code sets soa oth size := fun x => hr (hrt.1 x)
    have hn2 : ansOf c code sets soa oth size = encOf (cutOf c code size) := by unfold ansOf; rw [if_pos hg2, if_neg hr2]
    have hl2 : ansOf c code sets soa oth size = ansOf c code sets soa ttl size := by rw [hn2, e]
    rw [hl2]
    exact ⟨_, hd, hd, rfl, by omega, by omega, rfl, rfl, Nat.zero_le _, Nat.zero_le _⟩
theorem times_end {m m2 : MsgD} {oth : Int} {b16 loX lo1 lo2 loY : Nat} {Y16 Y18 wt2 Z : World} {q a u x o q' a' u' x' o' v1 v2 z1 z2 : Value}
    (hZ : Z = (wt2.setCell ⟨b16, 12, none⟩ z1).setCell ⟨b16, 13, none⟩ z2) (hm2 : m2 = { m with ans := m.ans.map (timedR oth), auth := m.auth.map (timedR oth) })
    (hM : MsgO Y16 loY m q a u x o) (hEY : Ext Y16 wt2) (hbY : Y16.heap.size ≤ b16) (hM2 : MsgO Y18 loX m2 q' a' u' x' o') (hE18 : Ext Y18 wt2) (hbX : b16 < loX)
    (h1 : ORec7 wt2 lo1 v1 (m.ans.map (timedR oth))) (hl1 : b16 < lo1) (h2 : ORec7 wt2 lo2 v2 (m.auth.map (timedR oth))) (hl2 : b16 < lo2) (hb : MsgBd m) (hb2 : MsgBd m2) :
    Msg7 Z m2 q v1 v2 x o ∧ Msg7 Z m2 q' a' u' x' o' := by
  have hkZ : ∀ k, k ≠ b16 → Z.heap[k]? = wt2.heap[k]? := fun k hk => by
    rw [hZ]; exact (Below.heap_setCell _ ⟨b16, 13, none⟩ _ k hk).trans (Below.heap_setCell _ ⟨b16, 12, none⟩ _ k hk)
  have hEYZ : Ext Y16 Z := by rw [hZ]; exact (hEY.setCell hbY _).setCell hbY _
  have h8 := ((hM.lower (Nat.zero_le _)).ext hEYZ).msg7 hb
  have h9 := (((hM2.ext hE18).by_ fun k hk _ => hkZ k (by omega)).lower (Nat.zero_le _)).msg7 hb2
  have hr1 := (h1.by_ (w' := Z) fun k hk _ => hkZ k (by omega)).recs.lower (Nat.zero_le _)
  have hr2 := (h2.by_ (w' := Z) fun k hk _ => hkZ k (by omega)).recs.lower (Nat.zero_le _)
  refine ⟨?_, h9⟩
  clear h9 hM2
  subst hm2
  exact ⟨h8.qs, hr1, hr2, h8.extra, h8.opts, hb2.qok, hb2.aok, hb2.uok, hb2.xok, hb2.xl⟩
set_option maxHeartbeats 8000000 in
theorem law28_times (d : List UInt8) (vc ttl oth n : Int) (vs vo : Value) (sets soa : List SetD) (w : World) (hg : Laid w) (hb : BitsAt w) (h : Arg28 w d vc ttl vs vo sets soa) (ho : 0 ≤ oth ∧ oth ≤ 4294967295) (hn : 0 ≤ n ∧ n ≤ 65535) :
    Calls Tryz.prog 5 #[S d, .agg #[.int .u8 vc, vs, vo], .int .u32 ttl, .int .u32 oth, .int .u16 n] w (AwPost w) := by
  have HAw := Lib.hid (fun V (hV : Ext w V) => law28_awake V (hg.ext hV) (hb.ext hV))
  have HSm := Lib.hid (fun V (hV : Ext w V) => law28_small vc vs vo sets soa V (h.vs.ext hV) (h.vo.ext hV))
  have H := Lib.hid h
  obtain ⟨sps, sA, sc, hspe, rfl, hsp1, hsp2, hsrd, hsst⟩ := h.vs
  have Hspe := Lib.hid hspe
  have Hsst := Lib.hid hsst
  unfold maxLen at hsp2
  clear hspe hsst
  obtain ⟨ops, oA, oc, _, rfl, _, _, _, _⟩ := h.vo
  have hdl := h.d
  unfold maxLen at hdl
  clear h
  obtain ⟨X0, hX0⟩ : ∃ X0, X0 = w.alloc (.cells #[.int .u8 vc, .slice sA sps.length sc, .slice oA ops.length oc] 36) := ⟨_, rfl⟩
  have hw0 : Ext w X0 := by rw [hX0]; exact (Ext.refl _).alloc _
  have r0 : X0.heap[w.heap.size]? = some (.cells #[.int .u8 vc, .slice sA sps.length sc, .slice oA ops.length oc] 36) := by rw [hX0]; exact heap_alloc_new _ _
  have z0 : X0.cell? ⟨w.heap.size, 0, none⟩ = some (.int .u8 vc) := box_cell r0 rfl
  have z1 : X0.cell? ⟨w.heap.size, 1, none⟩ = some (.slice sA sps.length sc) := box_cell r0 rfl
  have z2 : X0.cell? ⟨w.heap.size, 2, none⟩ = some (.slice oA ops.length oc) := box_cell r0 rfl
  go_enter Tryz.func5, Tryz.ntmps5
  go_upto_region 1 with fail
  have hzz : w.alloc (.cells #[.int .u8 vc, .slice sA sps.length sc, .slice oA ops.length oc] 36) = X0 := hX0.symm
  rw [hzz]
  clear hzz hX0
  by_cases hlong : 3000 < d.length
  · have hli : (3000 : Int) < (d.length : Int) := by omega
    clear z0 z1 z2
    go_wp2_with fail
    refine (HAw.out _ hw0).mono ?_
    rintro e w1 ⟨rfl, hE1⟩
    go_wp2_with fail
    go_ret
    exact ⟨rfl, hw0.trans hE1⟩
  have hli : ¬ (3000 : Int) < (d.length : Int) := by omega
  go_upto_region 2 with (first
    | (go_at_call 14; refine (HSm.out _ hw0).mono ?_; rintro e w1 ⟨B, rfl, hB, hE1⟩; (rcases B with _ | _))
    | (go_at_call 11; refine (HAw.out _ (hw0.trans hE1)).mono ?_; rintro e w2 ⟨rfl, hE2⟩)
    | fail)
  · go_wp2_with fail
    refine (HAw.out _ (hw0.trans hE1)).mono ?_
    rintro e w2 ⟨rfl, hE2⟩
    go_wp2_with fail
    go_ret
    exact ⟨rfl, hw0.trans (hE1.trans hE2)⟩
  obtain ⟨hsm1, hsm2⟩ : SmL sets ∧ SmL soa := by first | exact hB rfl | exact hB trivial | exact hB
  have hw2 : Ext w w2 := (hw0.trans hE1).trans hE2
  have HLk := Lib.hid (int_look d w2 (hg.ext hw2) (hb.ext hw2) (by omega))
  have HLo := Lib.hid (look_ok d)
  have hcn : (lookOf d).q.name.length ≤ 1048576 := by
    rcases hq : (lookOf d).hasQ with _ | _
    · rw [look_noq hq]; simp [qNone]
    · exact Nat.le_trans (may_le (HLo.out.q hq)) (by omega)
  obtain ⟨c, hc⟩ : ∃ c, c = lookOf d := ⟨_, rfl⟩
  rw [← hc] at HLk HLo hcn
  clear hc
  have hwz : wrap64 n = n := by unfold wrap64; omega
  have HOf := Lib.hid (fun t V (ht : 0 ≤ t ∧ t ≤ 4294967295) (hV : Ext w V) => ans_of c vc (.slice sA sps.length sc) (.slice oA ops.length oc) sets soa t n V (hg.ext hV) (hb.ext hV) HLo.out.wf hcn (H.out.vs.ext hV) (H.out.vo.ext hV) (hsm1.ok H.out.ws) (hsm2.ok H.out.wo) ht)
  refine HLk.out.mono ?_
  rintro e w3 ⟨rfl, hE3⟩
  dsimp only
  iterate 1 go_step
  obtain ⟨b11, hb11⟩ : ∃ b11, b11 = w3.heap.size := ⟨_, rfl⟩
  have hz11 : (w3.alloc (.cells cameZ 31)).heap[b11]? = some (.cells cameZ 31) := by rw [hb11]; exact heap_alloc_new _ _
  refine Go.Great.wpList_allocTo rfl (some 11) rfl (.pointer (some ⟨w3.heap.size, 0, none⟩)) (.cells cameZ 31) (by kernel_rfl) ?_
  rw [← hb11]
  refine Go.wpList_store_rowTo rfl 31 (.tmp 11) (.tmp 34) rfl rfl b11 (caRow c.kind c.code c.hd c.hasQ c.q c.hasE c.size) rfl rfl 31 _ hz11 (by kernel_rfl) rfl (by kernel_rfl) ?_
  rw [alloc_setRow7 w3 cameZ (caRow c.kind c.code c.hd c.hasQ c.q c.hasE c.size) 31 b11 hb11]
  refine wpList_nil ?_
  have r11 : (w3.alloc (.cells (caRow c.kind c.code c.hd c.hasQ c.q c.hasE c.size) 31)).heap[b11]? = some (.cells (caRow c.kind c.code c.hd c.hasQ c.q c.hasE c.size) 31) := by rw [hb11]; exact heap_alloc_new _ _
  have hw4 : Ext w (w3.alloc (.cells (caRow c.kind c.code c.hd c.hasQ c.q c.hasE c.size) 31)) := (hw2.trans hE3).alloc _
  have h03 : Ext X0 (w3.alloc (.cells (caRow c.kind c.code c.hd c.hasQ c.q c.hasE c.size) 31)) := ((hE1.trans hE2).trans hE3).alloc _
  obtain ⟨X4, hX⟩ : ∃ X4, X4 = w3.alloc (.cells (caRow c.kind c.code c.hd c.hasQ c.q c.hasE c.size) 31) := ⟨_, rfl⟩
  rw [← hX] at r11 hw4 h03 ⊢
  clear hX hz11 hb11 hE3 hE2 hE1 hB HLk HAw HSm z0 z1 z2 hw2 hli
  have r04 := (h03.block _ (Array.getElem?_eq_some_iff.1 r0).1).trans r0
  have hC0 : X4.cell? ⟨b11, 0, none⟩ = some (.int .u8 c.kind) := box_cell r11 rfl
  go_upto_region 4 with fail
  have HS4 := Lib.hid (fun V (hV : Ext X4 V) => (show V.heap[b11]? = some (.cells (caRow c.kind c.code c.hd c.hasQ c.q c.hasE c.size) 31) ∧ V.heap[w.heap.size]? = some (.cells #[.int .u8 vc, .slice sA sps.length sc, .slice oA ops.length oc] 36) from ⟨(hV.block _ (Array.getElem?_eq_some_iff.1 r11).1).trans r11, (hV.block _ (Array.getElem?_eq_some_iff.1 r04).1).trans r04⟩))
  obtain ⟨s, hs⟩ : ∃ s, s = ansOf c vc sets soa ttl n := ⟨_, rfl⟩
  obtain ⟨t, ht⟩ : ∃ t, t = ansOf c vc sets soa oth n := ⟨_, rfl⟩
  have HO1 := Lib.hid (fun V hV => HOf.out ttl V H.out.ttl hV)
  have HO2 := Lib.hid (fun V hV => HOf.out oth V ho hV)
  rw [← hs] at HO1
  rw [← ht] at HO2
  unfold StrPost at HO1 HO2
  have Hs := Lib.hid hs
  have Ht := Lib.hid ht
  clear hs ht hC0
  refine wp_region_noPanic ?_
  refine wp_region_tree (S := (fun V => V.heap[b11]? = some (.cells (caRow c.kind c.code c.hd c.hasQ c.q c.hasE c.size) 31) ∧ V.heap[w.heap.size]? = some (.cells #[.int .u8 vc, .slice sA sps.length sc, .slice oA ops.length oc] 36))) (.take 0 (.take 1 (.take 2 (.take 3 (.take 4 (.take 6 (.take 7 (.take 8 (.take 9 (.take 10 (.run 5 (.run 11 (.take 12 (.take 13 (.done))))))))))))))) (by kernel_rfl) (by kernel_rfl) (fun _ _ _ _ _ h => h) ((HS4.out _ (Ext.refl X4).drew)) ?_
  repeat ((with_reducible refine treeIs ?_); first
    | (refine treeTake (v := ?_) (by rfl) (by rfl) ?_ ?_; rotate_left; (focus (intro V hV; refine exec_load_part 31 (.tmp 11) ?_ b11 0 ?_ [.int .u8 c.kind, .int .i64 c.code, .int .u16 c.hd.id, .bool c.hd.qr, .int .u8 c.hd.op, .bool c.hd.aa, .bool c.hd.tc, .bool c.hd.rd, .bool c.hd.ra, .bool c.hd.z, .bool c.hd.ad, .bool c.hd.cd, .int .u8 c.hd.code, .bool c.hasQ, S c.q.name, .int .u16 c.q.typ, .int .u16 c.q.cls, .bool c.hasE, .int .i64 c.size] (row_all hV.1) _ Tryz.underlying31 ?_ ?_; (focus rfl); (focus rfl); (focus rfl); (focus kernel_rfl))); (try simp only [Act.put, List.setIfInBounds_toArray, List.set_cons_zero, List.set_cons_succ]))
    | (refine treeTake (v := ?_) (by rfl) (by rfl) ?_ ?_; rotate_left; (focus (intro V hV; refine exec_load_part 36 (.tmp 6) ?_ w.heap.size 0 ?_ [.int .u8 vc, .slice sA sps.length sc, .slice oA ops.length oc] (row_all hV.2) _ Tryz.underlying36 ?_ ?_; (focus rfl); (focus rfl); (focus rfl); (focus kernel_rfl))); (try simp only [Act.put, List.setIfInBounds_toArray, List.set_cons_zero, List.set_cons_succ]))
    | (refine treeTakeX (a' := ?_) ⟨_, (HS4.out _ (Ext.refl X4).drew)⟩ (by rfl) rfl (by kernel_rfl) rfl ?_ ?_; rotate_left; (focus (intro V Q' hV hq; obtain ⟨hV1, hV2⟩ := hV; (repeat (first | go_guarded | go_skip | go_step)); (first | exact hq | exact wpList_nil hq)))))
  refine treeRun (by rfl) (fun K hK => ?_)
  go_simp
  refine (HO1.out _ hw4.drew).mono ?_
  rintro e w5 ⟨rfl, hEq⟩
  have hE5 : Ext X4 w5 := (Ext.refl X4).drew.trans hEq
  clear hEq
  refine hK.out _ _ ?_ ?_
  · exact (HS4.out _ hE5)
  clear hK K
  (try simp only [Act.put, List.setIfInBounds_toArray, List.set_cons_zero, List.set_cons_succ])
  refine treeRun (by rfl) (fun K hK => ?_)
  go_simp
  refine (HO2.out _ (hw4.trans hE5)).mono ?_
  rintro e w6 ⟨rfl, hEq⟩
  have hE6 : Ext X4 w6 := hE5.trans hEq
  clear hEq
  refine hK.out _ _ ?_ ?_
  · exact (HS4.out _ hE6)
  clear hK K
  (try simp only [Act.put, List.setIfInBounds_toArray, List.set_cons_zero, List.set_cons_succ])
  repeat ((with_reducible refine treeIs ?_); first
    | (refine treeTake (v := ?_) (by rfl) (by rfl) ?_ ?_; rotate_left; (focus (intro V hV; refine exec_load_part 31 (.tmp 11) ?_ b11 0 ?_ [.int .u8 c.kind, .int .i64 c.code, .int .u16 c.hd.id, .bool c.hd.qr, .int .u8 c.hd.op, .bool c.hd.aa, .bool c.hd.tc, .bool c.hd.rd, .bool c.hd.ra, .bool c.hd.z, .bool c.hd.ad, .bool c.hd.cd, .int .u8 c.hd.code, .bool c.hasQ, S c.q.name, .int .u16 c.q.typ, .int .u16 c.q.cls, .bool c.hasE, .int .i64 c.size] (row_all hV.1) _ Tryz.underlying31 ?_ ?_; (focus rfl); (focus rfl); (focus rfl); (focus kernel_rfl))); (try simp only [Act.put, List.setIfInBounds_toArray, List.set_cons_zero, List.set_cons_succ]))
    | (refine treeTake (v := ?_) (by rfl) (by rfl) ?_ ?_; rotate_left; (focus (intro V hV; refine exec_load_part 36 (.tmp 6) ?_ w.heap.size 0 ?_ [.int .u8 vc, .slice sA sps.length sc, .slice oA ops.length oc] (row_all hV.2) _ Tryz.underlying36 ?_ ?_; (focus rfl); (focus rfl); (focus rfl); (focus kernel_rfl))); (try simp only [Act.put, List.setIfInBounds_toArray, List.set_cons_zero, List.set_cons_succ]))
    | (refine treeTakeX (a' := ?_) ⟨_, (HS4.out _ (Ext.refl X4).drew)⟩ (by rfl) rfl (by kernel_rfl) rfl ?_ ?_; rotate_left; (focus (intro V Q' hV hq; obtain ⟨hV1, hV2⟩ := hV; (repeat (first | go_guarded | go_skip | go_step)); (first | exact hq | exact wpList_nil hq)))))
  refine treeDone ?_
  refine NoPanic.normal ?_
  obtain ⟨r116, r06⟩ := HS4.out _ hE6
  have hw6 : Ext w w6 := hw4.trans hE6
  go_upto_region 6 with (first | (refine wpList_load_part (by rfl) 36 (.tmp 6) rfl w.heap.size 0 rfl [.int .u8 vc, .slice sA sps.length sc, .slice oA ops.length oc] (row_all r06) _ Tryz.underlying36 rfl (by kernel_rfl) ?_) | fail)
  obtain ⟨W7, hW7⟩ : ∃ W7, W7 = w6.alloc (.cells #[.int .u8 vc, .slice sA sps.length sc, .slice oA ops.length oc] 36) := ⟨_, rfl⟩
  obtain ⟨b14, hb14⟩ : ∃ b14, b14 = w6.heap.size := ⟨_, rfl⟩
  have r147 : W7.heap[b14]? = some (.cells #[.int .u8 vc, .slice sA sps.length sc, .slice oA ops.length oc] 36) := by rw [hW7, hb14]; exact heap_alloc_new _ _
  have hE67 : Ext w6 W7 := by rw [hW7]; exact (Ext.refl _).alloc _
  have hb14s : b14 < W7.heap.size := (Array.getElem?_eq_some_iff.1 r147).1
  have hbo : w6.heap.size ≤ b14 := by rw [hb14]; exact Nat.le_refl _
  rw [← hW7, ← hb14]
  clear hW7 hb14
  have r07 := (hE67.block _ (Array.getElem?_eq_some_iff.1 r06).1).trans r06
  have v1 : (W7.alloc (.cells #[] 45)).cell? ⟨w.heap.size, 1, none⟩ = some (.slice sA sps.length sc) := box_cell ((((Ext.refl W7).alloc (.cells #[] 45)).block _ (Array.getElem?_eq_some_iff.1 r07).1).trans r07) rfl
  obtain ⟨j0, hj0, hy0, hy1, hy2⟩ := info_parts info_set
  have hspl : sps.length ≤ 40 := by have := hsm1.1; rw [← Hspe.out, List.length_map] at this; exact this
  have hsrd7 := hsrd.ext (hw6.trans hE67)
  go_upto_region 7 with (first
    | (at_builtin
       refine wpList_app _ rfl (.tmp 48) (.tmp 50) _ rfl W7.heap.size 45 j0 _ 5 48 Tryz.underlying34 hj0 hy0 hy1 hy2 rfl (by omega) (some ⟨W7.heap.size, 0, none⟩) 0 0 [] rfl (own_zero W7 45 5) 0 sA sps.length sc (sps.flatMap setCells) rfl (hsrd7.ext ((Ext.refl _).alloc _)) (sets_cell1 _ Hsst.out) (by omega) (by omega) (by simp) ?_
       intro A8 c8 w8 hown8 hg8 hb8 hat8
       rw [Nat.zero_add, List.nil_append] at hown8
       rw [Nat.zero_add]
       have hE78 : Ext W7 w8 := ((Ext.refl W7).alloc _).then hb8 (Nat.le_refl _)
       have r148 := (hE78.block _ hb14s).trans r147
       have k141 := box_cell (j := 1) r148 rfl
       have g141 := box_free (j := 1) r148)
    | fail)
  obtain ⟨W9, hW9⟩ : ∃ W9, W9 = w8.setCell ⟨b14, 1, none⟩ (.slice A8 sps.length c8) := ⟨_, rfl⟩
  have r149 : W9.heap[b14]? = some (.cells #[.int .u8 vc, .slice A8 sps.length c8, .slice oA ops.length oc] 36) := by rw [hW9]; exact row_set r148 1 _
  have hown9 : Own W9 W7.heap.size 45 5 A8 sps.length c8 (sps.flatMap setCells) := by rw [hW9]; exact hown8.set_other hb14s _
  have hE69 : Ext w6 W9 := by rw [hW9]; exact (hE67.trans hE78).setCell hbo _
  rw [← hW9]
  clear hW9 k141 g141 r148 hown8 hg8 hb8 hat8 v1
  go_wp2_with fail
  go_loopw [15] (fun s15 wr => ∃ k : Nat, k ≤ sps.length ∧ s15 = .int .i64 k ∧ wr.heap[b14]? = some (.cells #[.int .u8 vc, .slice A8 sps.length c8, .slice oA ops.length oc] 36) ∧ Own wr W7.heap.size 45 5 A8 sps.length c8 (((sps.take k).map (ttlP oth) ++ sps.drop k).flatMap setCells) ∧ Ext w6 wr) (fun s15 _ => sps.length - (intOf s15).toNat)
  case atStart => exact ⟨0, Nat.zero_le _, rfl, r149, by simpa using hown9, hE69⟩
  case round =>
    obtain ⟨k, hk, rfl, hr14, hown, hEk⟩ := hrel
    obtain ⟨wo, rfl⟩ : ∃ wo : World, wo = wr := ⟨_, rfl⟩
    have k141 := box_cell (j := 1) hr14 rfl
    by_cases hlt : k < sps.length
    · obtain ⟨g8, rfl, hg8l, _⟩ := hown.addr (by omega)
      have hne8 : b14 ≠ g8 := by have := (hown.blk g8 rfl).1; omega
      have hset := ttlP_set oth sps k hlt
      have hst := hown.stored (k * 5 + 3) (.int .u32 oth) (by omega)
      rw [hset] at hst
      have Hst := Lib.hid hst
      obtain ⟨cur, f8, hcell8⟩ := own_cell hown (k * 5 + 3) (by omega)
      have hki : (k : Int) < (sps.length : Int) := by omega
      have hk0 : (0 : Int) ≤ (k : Int) := by omega
      have hr14' := Lib.hid ((Below.heap_setCell wo ⟨g8, k * 5 + 3, none⟩ (.int .u32 oth) b14 hne8).trans hr14)
      have hE' := Lib.hid (hEk.setCell (p := ⟨g8, k * 5 + 3, none⟩) (by have := (hown.blk g8 rfl).1; have := hE67.size; dsimp only; omega) (.int .u32 oth))
      clear hst hset
      go_wp2_with fail
      go_roundw
      case rel => exact ⟨k + 1, by omega, by go_num, hr14'.out, Hst.out, hE'.out⟩
      case measure => simp [intOf]; omega
    · obtain rfl : k = sps.length := by omega
      have hki : ¬ ((sps.length : Int) < (sps.length : Int)) := by omega
      have hEw : Ext w wo := hw6.trans hEk
      have HBs := Lib.hid (bare_sets sps sets oth Hspe.out Hsst.out hEw hown)
      have HO3 := Lib.hid (fun V (hV : Ext wo V) => ans_of c vc (.slice A8 sps.length c8) (.slice oA ops.length oc) (sets.map fun s => { s with ttl := oth }) soa ttl n V (hg.ext (hEw.trans hV)) (hb.ext (hEw.trans hV)) HLo.out.wf hcn (HBs.out.ext hV) (H.out.vo.ext (hEw.trans hV)) ((smL_bare oth hsm1).ok (wf_bare oth H.out.ws)) (hsm2.ok H.out.wo) H.out.ttl)
      rw [ansOf_bare, ← Hs.out] at HO3
      unfold StrPost at HO3
      go_upto_region 11 with fail
      have r11k := (hEk.block _ (Array.getElem?_eq_some_iff.1 r116).1).trans r116
      clear HO1 HO2 hown k141
      by_cases hs0 : s = []
      · subst hs0
        go_wp2_with (first | (refine wpList_load_part (by rfl) 31 (.tmp 11) rfl b11 0 rfl [.int .u8 c.kind, .int .i64 c.code, .int .u16 c.hd.id, .bool c.hd.qr, .int .u8 c.hd.op, .bool c.hd.aa, .bool c.hd.tc, .bool c.hd.rd, .bool c.hd.ra, .bool c.hd.z, .bool c.hd.ad, .bool c.hd.cd, .int .u8 c.hd.code, .bool c.hasQ, S c.q.name, .int .u16 c.q.typ, .int .u16 c.q.cls, .bool c.hasE, .int .i64 c.size] (row_all r11k) _ Tryz.underlying31 rfl (by kernel_rfl) ?_) | (refine wpList_load_part (by rfl) 36 (.tmp 14) rfl b14 0 rfl [.int .u8 vc, .slice A8 sps.length c8, .slice oA ops.length oc] (row_all hr14) _ Tryz.underlying36 rfl (by kernel_rfl) ?_) | fail)
        refine (HO3.out _ (Ext.refl _)).mono ?_
        rintro e w9 ⟨rfl, hE9⟩
        by_cases htm : 2147483647 < ttl
        · go_wp2_with fail
          go_ret
          exact ⟨rfl, hEw.trans hE9⟩
        · go_wp2_with fail
          go_ret
          exact ⟨rfl, hEw.trans hE9⟩
      have htm : ¬ 2147483647 < ttl := by
        intro hlt
        apply hs0
        rw [Hs.out]
        unfold ansOf
        rw [if_neg]
        rintro ⟨⟨_, _, _, h4⟩, _⟩
        omega
      by_cases hom : 2147483647 < oth
      · go_wp2_with (first | (refine wpList_load_part (by rfl) 31 (.tmp 11) rfl b11 0 rfl [.int .u8 c.kind, .int .i64 c.code, .int .u16 c.hd.id, .bool c.hd.qr, .int .u8 c.hd.op, .bool c.hd.aa, .bool c.hd.tc, .bool c.hd.rd, .bool c.hd.ra, .bool c.hd.z, .bool c.hd.ad, .bool c.hd.cd, .int .u8 c.hd.code, .bool c.hasQ, S c.q.name, .int .u16 c.q.typ, .int .u16 c.q.cls, .bool c.hasE, .int .i64 c.size] (row_all r11k) _ Tryz.underlying31 rfl (by kernel_rfl) ?_) | (refine wpList_load_part (by rfl) 36 (.tmp 14) rfl b14 0 rfl [.int .u8 vc, .slice A8 sps.length c8, .slice oA ops.length oc] (row_all hr14) _ Tryz.underlying36 rfl (by kernel_rfl) ?_) | fail)
        refine (HO3.out _ (Ext.refl _)).mono ?_
        rintro e w9 ⟨rfl, hE9⟩
        go_wp2_with fail
        go_ret
        exact ⟨rfl, hEw.trans hE9⟩
      go_upto_region 13 with (first | (refine wpList_load_part (by rfl) 31 (.tmp 11) rfl b11 0 rfl [.int .u8 c.kind, .int .i64 c.code, .int .u16 c.hd.id, .bool c.hd.qr, .int .u8 c.hd.op, .bool c.hd.aa, .bool c.hd.tc, .bool c.hd.rd, .bool c.hd.ra, .bool c.hd.z, .bool c.hd.ad, .bool c.hd.cd, .int .u8 c.hd.code, .bool c.hasQ, S c.q.name, .int .u16 c.q.typ, .int .u16 c.q.cls, .bool c.hasE, .int .i64 c.size] (row_all r11k) _ Tryz.underlying31 rfl (by kernel_rfl) ?_) | (refine wpList_load_part (by rfl) 36 (.tmp 14) rfl b14 0 rfl [.int .u8 vc, .slice A8 sps.length c8, .slice oA ops.length oc] (row_all hr14) _ Tryz.underlying36 rfl (by kernel_rfl) ?_) | (go_at_call 16; refine (HO3.out _ (Ext.refl _)).mono ?_; rintro e w9 ⟨rfl, hE9⟩) | fail)
      have hse : s.isEmpty = false := by cases s; exact absurd rfl hs0; rfl
      obtain ⟨m, hdm, hdt, hlen, hsl, htl, hma, hmu, hal, hul⟩ := times_plain HLo.out H.out.ws H.out.wo H.out.ttl ho (by omega) (by rw [← Hs.out]; exact hs0)
      rw [← Hs.out] at hdm hlen hsl
      rw [← Ht.out] at hdt hlen htl
      obtain ⟨m2, hm2⟩ : ∃ m2 : MsgD, m2 = { m with ans := m.ans.map (timedR oth), auth := m.auth.map (timedR oth) } := ⟨_, rfl⟩
      rw [← hm2] at hdt
      have HDs := Lib.hid (fun V (hV : Ext w V) => wire_decode s V (hg.ext hV) (hb.ext hV) (by omega))
      have HDt := Lib.hid (fun V (hV : Ext w V) => wire_decode t V (hg.ext hV) (hb.ext hV) (by omega))
      have hw9 := hEw.trans hE9
      have P := Lib.hid (And.intro hdm (And.intro hdt (And.intro hlen (And.intro hal hul))))
      have PM := Lib.hid (And.intro hm2 (And.intro hma hmu))
      clear hdm hdt hlen hsl htl hma hmu hal hul hm2 HO3 hr14 r11k hEk
      go_upto_region 15 with fail
      go_upto_region 15 with fail
      go_wp2_with fail
      refine (HDs.out _ hw9).mono ?_
      rintro e Y16 ⟨⟨x, _, hx, _⟩ | ⟨m', q, a, u, x, o, hm, rfl, hMO, hBd⟩, hEd⟩
      · rw [P.out.1] at hx; cases hx
      obtain rfl : m = m' := by have := P.out.1; rw [hm] at this; injection this with this; exact this.symm
      clear hm
      have HM := Lib.hid hMO
      obtain ⟨⟨qA, qc, rfl, _⟩, ⟨aA, ac, rfl, _⟩, ⟨uA, uc, rfl, _⟩, ⟨xA, xc, rfl, _⟩, ⟨oA2, oc2, rfl, _⟩⟩ := hMO
      dsimp only
      iterate 10 go_step
      skip
      obtain ⟨b16, hb16⟩ : ∃ b16, b16 = Y16.heap.size := ⟨_, rfl⟩
      have hz : (Y16.alloc (.cells msgZ 52)).heap[b16]? = some (.cells msgZ 52) := by rw [hb16]; exact heap_alloc_new _ _
      refine Go.Great.wpList_allocTo rfl (some 16) rfl (.pointer (some ⟨Y16.heap.size, 0, none⟩)) (.cells msgZ 52) (by kernel_rfl) ?_
      rw [← hb16]
      refine Go.wpList_store_rowTo rfl 52 (.tmp 16) (.tmp 91) rfl rfl b16 #[.int .u16 m.hd.id, .bool m.hd.qr, .int .u8 m.hd.op, .bool m.hd.aa, .bool m.hd.tc, .bool m.hd.rd, .bool m.hd.ra, .bool m.hd.z, .bool m.hd.ad, .bool m.hd.cd, .int .u8 m.hd.code, .slice qA m.qs.length qc, .slice aA m.ans.length ac, .slice uA m.auth.length uc, .slice xA m.extra.length xc, .bool m.he, .int .u16 m.ed.size, .int .u8 m.ed.ext, .int .u8 m.ed.ver, .int .u16 m.ed.flags, .slice oA2 m.ed.opts.length oc2] rfl rfl 52 _ hz (by kernel_rfl) rfl (by kernel_rfl) ?_
      rw [alloc_setRow7 Y16 msgZ #[.int .u16 m.hd.id, .bool m.hd.qr, .int .u8 m.hd.op, .bool m.hd.aa, .bool m.hd.tc, .bool m.hd.rd, .bool m.hd.ra, .bool m.hd.z, .bool m.hd.ad, .bool m.hd.cd, .int .u8 m.hd.code, .slice qA m.qs.length qc, .slice aA m.ans.length ac, .slice uA m.auth.length uc, .slice xA m.extra.length xc, .bool m.he, .int .u16 m.ed.size, .int .u8 m.ed.ext, .int .u8 m.ed.ver, .int .u16 m.ed.flags, .slice oA2 m.ed.opts.length oc2] 52 b16 hb16]
      iterate 3 go_step
      refine wpList_nil ?_
      rw [← hb16]
      have r16 : (Y16.alloc (.cells #[.int .u16 m.hd.id, .bool m.hd.qr, .int .u8 m.hd.op, .bool m.hd.aa, .bool m.hd.tc, .bool m.hd.rd, .bool m.hd.ra, .bool m.hd.z, .bool m.hd.ad, .bool m.hd.cd, .int .u8 m.hd.code, .slice qA m.qs.length qc, .slice aA m.ans.length ac, .slice uA m.auth.length uc, .slice xA m.extra.length xc, .bool m.he, .int .u16 m.ed.size, .int .u8 m.ed.ext, .int .u8 m.ed.ver, .int .u16 m.ed.flags, .slice oA2 m.ed.opts.length oc2] 52)).heap[b16]? = some (.cells #[.int .u16 m.hd.id, .bool m.hd.qr, .int .u8 m.hd.op, .bool m.hd.aa, .bool m.hd.tc, .bool m.hd.rd, .bool m.hd.ra, .bool m.hd.z, .bool m.hd.ad, .bool m.hd.cd, .int .u8 m.hd.code, .slice qA m.qs.length qc, .slice aA m.ans.length ac, .slice uA m.auth.length uc, .slice xA m.extra.length xc, .bool m.he, .int .u16 m.ed.size, .int .u8 m.ed.ext, .int .u8 m.ed.ver, .int .u16 m.ed.flags, .slice oA2 m.ed.opts.length oc2] 52) := by rw [hb16]; exact heap_alloc_new _ _
      have hE9X : Ext w9 (Y16.alloc (.cells #[.int .u16 m.hd.id, .bool m.hd.qr, .int .u8 m.hd.op, .bool m.hd.aa, .bool m.hd.tc, .bool m.hd.rd, .bool m.hd.ra, .bool m.hd.z, .bool m.hd.ad, .bool m.hd.cd, .int .u8 m.hd.code, .slice qA m.qs.length qc, .slice aA m.ans.length ac, .slice uA m.auth.length uc, .slice xA m.extra.length xc, .bool m.he, .int .u16 m.ed.size, .int .u8 m.ed.ext, .int .u8 m.ed.ver, .int .u16 m.ed.flags, .slice oA2 m.ed.opts.length oc2] 52)) := hEd.alloc _
      have hY16 : Ext Y16 (Y16.alloc (.cells #[.int .u16 m.hd.id, .bool m.hd.qr, .int .u8 m.hd.op, .bool m.hd.aa, .bool m.hd.tc, .bool m.hd.rd, .bool m.hd.ra, .bool m.hd.z, .bool m.hd.ad, .bool m.hd.cd, .int .u8 m.hd.code, .slice qA m.qs.length qc, .slice aA m.ans.length ac, .slice uA m.auth.length uc, .slice xA m.extra.length xc, .bool m.he, .int .u16 m.ed.size, .int .u8 m.ed.ext, .int .u8 m.ed.ver, .int .u16 m.ed.flags, .slice oA2 m.ed.opts.length oc2] 52)) := (Ext.refl _).alloc _
      have hloY16 : Y16.heap.size ≤ b16 := by rw [hb16]; exact Nat.le_refl _
      have hlo16 : w9.heap.size ≤ b16 := by rw [hb16]; exact hEd.size
      obtain ⟨X10, hX⟩ : ∃ X10, X10 = Y16.alloc (.cells #[.int .u16 m.hd.id, .bool m.hd.qr, .int .u8 m.hd.op, .bool m.hd.aa, .bool m.hd.tc, .bool m.hd.rd, .bool m.hd.ra, .bool m.hd.z, .bool m.hd.ad, .bool m.hd.cd, .int .u8 m.hd.code, .slice qA m.qs.length qc, .slice aA m.ans.length ac, .slice uA m.auth.length uc, .slice xA m.extra.length xc, .bool m.he, .int .u16 m.ed.size, .int .u8 m.ed.ext, .int .u8 m.ed.ver, .int .u16 m.ed.flags, .slice oA2 m.ed.opts.length oc2] 52) := ⟨_, rfl⟩
      rw [← hX] at r16 hE9X hY16 ⊢
      clear hX hz hb16 hEd
      go_upto_region 16 with fail
      go_wp2_with fail
      refine (HDt.out _ (hw9.trans hE9X)).mono ?_
      rintro e Y18 ⟨⟨x, _, hx, _⟩ | ⟨m2', q, a, u, x, o, hm, rfl, hMO, hBd2⟩, hEd⟩
      · rw [P.out.2.1] at hx; cases hx
      obtain rfl : m2 = m2' := by have := P.out.2.1; rw [hm] at this; injection this with this; exact this.symm
      clear hm
      have HM2 := Lib.hid hMO
      obtain ⟨⟨qB, qd, rfl, _⟩, ⟨aB, ad, rfl, _⟩, ⟨uB, ud, rfl, _⟩, ⟨xB, xd, rfl, _⟩, ⟨oB2, od2, rfl, _⟩⟩ := hMO
      dsimp only
      iterate 10 go_step
      skip
      obtain ⟨b18, hb18⟩ : ∃ b18, b18 = Y18.heap.size := ⟨_, rfl⟩
      have hz : (Y18.alloc (.cells msgZ 52)).heap[b18]? = some (.cells msgZ 52) := by rw [hb18]; exact heap_alloc_new _ _
      refine Go.Great.wpList_allocTo rfl (some 18) rfl (.pointer (some ⟨Y18.heap.size, 0, none⟩)) (.cells msgZ 52) (by kernel_rfl) ?_
      rw [← hb18]
      refine Go.wpList_store_rowTo rfl 52 (.tmp 18) (.tmp 96) rfl rfl b18 #[.int .u16 m2.hd.id, .bool m2.hd.qr, .int .u8 m2.hd.op, .bool m2.hd.aa, .bool m2.hd.tc, .bool m2.hd.rd, .bool m2.hd.ra, .bool m2.hd.z, .bool m2.hd.ad, .bool m2.hd.cd, .int .u8 m2.hd.code, .slice qB m2.qs.length qd, .slice aB m2.ans.length ad, .slice uB m2.auth.length ud, .slice xB m2.extra.length xd, .bool m2.he, .int .u16 m2.ed.size, .int .u8 m2.ed.ext, .int .u8 m2.ed.ver, .int .u16 m2.ed.flags, .slice oB2 m2.ed.opts.length od2] rfl rfl 52 _ hz (by kernel_rfl) rfl (by kernel_rfl) ?_
      rw [alloc_setRow7 Y18 msgZ #[.int .u16 m2.hd.id, .bool m2.hd.qr, .int .u8 m2.hd.op, .bool m2.hd.aa, .bool m2.hd.tc, .bool m2.hd.rd, .bool m2.hd.ra, .bool m2.hd.z, .bool m2.hd.ad, .bool m2.hd.cd, .int .u8 m2.hd.code, .slice qB m2.qs.length qd, .slice aB m2.ans.length ad, .slice uB m2.auth.length ud, .slice xB m2.extra.length xd, .bool m2.he, .int .u16 m2.ed.size, .int .u8 m2.ed.ext, .int .u8 m2.ed.ver, .int .u16 m2.ed.flags, .slice oB2 m2.ed.opts.length od2] 52 b18 hb18]
      iterate 3 go_step
      refine wpList_nil ?_
      rw [← hb18]
      have r18 : (Y18.alloc (.cells #[.int .u16 m2.hd.id, .bool m2.hd.qr, .int .u8 m2.hd.op, .bool m2.hd.aa, .bool m2.hd.tc, .bool m2.hd.rd, .bool m2.hd.ra, .bool m2.hd.z, .bool m2.hd.ad, .bool m2.hd.cd, .int .u8 m2.hd.code, .slice qB m2.qs.length qd, .slice aB m2.ans.length ad, .slice uB m2.auth.length ud, .slice xB m2.extra.length xd, .bool m2.he, .int .u16 m2.ed.size, .int .u8 m2.ed.ext, .int .u8 m2.ed.ver, .int .u16 m2.ed.flags, .slice oB2 m2.ed.opts.length od2] 52)).heap[b18]? = some (.cells #[.int .u16 m2.hd.id, .bool m2.hd.qr, .int .u8 m2.hd.op, .bool m2.hd.aa, .bool m2.hd.tc, .bool m2.hd.rd, .bool m2.hd.ra, .bool m2.hd.z, .bool m2.hd.ad, .bool m2.hd.cd, .int .u8 m2.hd.code, .slice qB m2.qs.length qd, .slice aB m2.ans.length ad, .slice uB m2.auth.length ud, .slice xB m2.extra.length xd, .bool m2.he, .int .u16 m2.ed.size, .int .u8 m2.ed.ext, .int .u8 m2.ed.ver, .int .u16 m2.ed.flags, .slice oB2 m2.ed.opts.length od2] 52) := by rw [hb18]; exact heap_alloc_new _ _
      have hE20X : Ext X10 (Y18.alloc (.cells #[.int .u16 m2.hd.id, .bool m2.hd.qr, .int .u8 m2.hd.op, .bool m2.hd.aa, .bool m2.hd.tc, .bool m2.hd.rd, .bool m2.hd.ra, .bool m2.hd.z, .bool m2.hd.ad, .bool m2.hd.cd, .int .u8 m2.hd.code, .slice qB m2.qs.length qd, .slice aB m2.ans.length ad, .slice uB m2.auth.length ud, .slice xB m2.extra.length xd, .bool m2.he, .int .u16 m2.ed.size, .int .u8 m2.ed.ext, .int .u8 m2.ed.ver, .int .u16 m2.ed.flags, .slice oB2 m2.ed.opts.length od2] 52)) := hEd.alloc _
      have hY18 : Ext Y18 (Y18.alloc (.cells #[.int .u16 m2.hd.id, .bool m2.hd.qr, .int .u8 m2.hd.op, .bool m2.hd.aa, .bool m2.hd.tc, .bool m2.hd.rd, .bool m2.hd.ra, .bool m2.hd.z, .bool m2.hd.ad, .bool m2.hd.cd, .int .u8 m2.hd.code, .slice qB m2.qs.length qd, .slice aB m2.ans.length ad, .slice uB m2.auth.length ud, .slice xB m2.extra.length xd, .bool m2.he, .int .u16 m2.ed.size, .int .u8 m2.ed.ext, .int .u8 m2.ed.ver, .int .u16 m2.ed.flags, .slice oB2 m2.ed.opts.length od2] 52)) := (Ext.refl _).alloc _
      have hloY18 : Y18.heap.size ≤ b18 := by rw [hb18]; exact Nat.le_refl _
      have hlo18 : X10.heap.size ≤ b18 := by rw [hb18]; exact hEd.size
      obtain ⟨X20, hX⟩ : ∃ X20, X20 = Y18.alloc (.cells #[.int .u16 m2.hd.id, .bool m2.hd.qr, .int .u8 m2.hd.op, .bool m2.hd.aa, .bool m2.hd.tc, .bool m2.hd.rd, .bool m2.hd.ra, .bool m2.hd.z, .bool m2.hd.ad, .bool m2.hd.cd, .int .u8 m2.hd.code, .slice qB m2.qs.length qd, .slice aB m2.ans.length ad, .slice uB m2.auth.length ud, .slice xB m2.extra.length xd, .bool m2.he, .int .u16 m2.ed.size, .int .u8 m2.ed.ext, .int .u8 m2.ed.ver, .int .u16 m2.ed.flags, .slice oB2 m2.ed.opts.length od2] 52) := ⟨_, rfl⟩
      rw [← hX] at r18 hE20X hY18 ⊢
      clear hX hz hb18 hEd
      go_upto_region 17 with fail
      have r16k := (hE20X.block _ (Array.getElem?_eq_some_iff.1 r16).1).trans r16
      have hw20 : Ext w X20 := (hw9.trans hE9X).trans hE20X
      have HS17 := Lib.hid (fun V (hV : Ext X20 V) => (show V.cell? ⟨b16, 12, none⟩ = some (.slice aA m.ans.length ac) ∧ V.cell? ⟨b16, 13, none⟩ = some (.slice uA m.auth.length uc) from by
        have rV := (hV.block _ (Array.getElem?_eq_some_iff.1 r16k).1).trans r16k
        exact ⟨box_cell rV rfl, box_cell rV rfl⟩))
      have HT := Lib.hid (fun u V (hV : Ext X20 V) => law28_timed m.ans (.slice aA m.ans.length ac) u V ((HM.out.ans.recs.lower (Nat.zero_le _)).ext (hY16.trans (hE20X.trans hV))) (by have := P.out.2.2.2.1; omega))
      have HU := Lib.hid (fun u V (hV : Ext X20 V) => law28_timed m.auth (.slice uA m.auth.length uc) u V ((HM.out.auth.recs.lower (Nat.zero_le _)).ext (hY16.trans (hE20X.trans hV))) (by have := P.out.2.2.2.2; omega))
      have HR1 := Lib.hid (fun V v (hV : Ext X20 V) (h : Recs V 0 v m.ans) => ref7_records m.ans v (.slice aA m.ans.length ac) V h ((HM.out.ans.recs.lower (Nat.zero_le _)).ext (hY16.trans (hE20X.trans hV))))
      have HR2 := Lib.hid (fun V v (hV : Ext X20 V) (h : Recs V 0 v m.auth) => ref7_records m.auth v (.slice uA m.auth.length uc) V h ((HM.out.auth.recs.lower (Nat.zero_le _)).ext (hY16.trans (hE20X.trans hV))))
      have HT1 := Lib.hid (fun V (hV : Ext X20 V) => HT.out ttl V hV)
      have HU1 := Lib.hid (fun V (hV : Ext X20 V) => HU.out ttl V hV)
      rw [PM.out.2.1] at HT1
      rw [PM.out.2.2] at HU1
      unfold ORec7Post at HT1 HU1 HT HU
      have hlen : (s.length : Int) = (t.length : Int) := by have := P.out.2.2.1; omega
      have hlen' : decide ((s.length : Int) = (t.length : Int)) = true := decide_eq_true hlen
      clear r147 hb14s hbo hspl hsrd7 hEw
      refine wp_region_noPanic ?_
      refine wp_region_tree (S := (fun V => V.cell? ⟨b16, 12, none⟩ = some (.slice aA m.ans.length ac) ∧ V.cell? ⟨b16, 13, none⟩ = some (.slice uA m.auth.length uc))) (.take 0 (.take 1 (.take 2 (.take 3 (.take 4 (.take 5 (.take 6 (.take 7 (.take 8 (.take 9 (.take 10 (.take 11 (.take 12 (.take 13 (.take 14 (.take 15 (.take 16 (.take 18 (.take 19 (.run 17 (.run 20 (.take 21 (.take 22 (.take 23 (.take 24 (.take 25 (.take 26 (.take 28 (.take 29 (.run 27 (.run 30 (.take 31 (.take 32 (.done)))))))))))))))))))))))))))))))))) (by kernel_rfl) (by kernel_rfl) (fun _ _ _ _ _ h => h) ((HS17.out _ (Ext.refl X20).drew)) ?_
      repeat ((with_reducible refine treeIs ?_); first
        | (refine treeTakeX (a' := ?_) ⟨_, (HS17.out _ (Ext.refl X20).drew)⟩ (by rfl) rfl (by kernel_rfl) rfl ?_ ?_; rotate_left; (focus (intro V Q' hV hq; obtain ⟨hV1, hV2⟩ := hV; (repeat (first | go_guarded | go_skip | go_step)); (first | exact hq | exact wpList_nil hq)))))
      refine treeRun (by rfl) (fun K hK => ?_)
      go_simp
      refine (HT1.out _ (Ext.refl X20).drew).mono ?_
      rintro e wv1 ⟨v1, rfl, hv1, hEq⟩
      have hEa : Ext X20 wv1 := ((Ext.refl X20).drew).trans hEq
      have hv1r := Lib.hid (hv1.recs.lower (Nat.zero_le _))
      obtain ⟨Av1, cv1, rfl, _⟩ := hv1
      clear hEq
      refine hK.out _ _ ?_ ?_
      · exact (HS17.out _ hEa)
      clear hK K
      (try simp only [Act.put, List.setIfInBounds_toArray, List.set_cons_zero, List.set_cons_succ])
      refine treeRun (by rfl) (fun K hK => ?_)
      go_simp
      refine (HR1.out _ _ hEa hv1r.out).mono ?_
      rintro e wb ⟨rfl, hEq⟩
      have hEb : Ext X20 wb := (hEa).trans hEq
      clear hEq
      refine hK.out _ _ ?_ ?_
      · exact (HS17.out _ hEb)
      clear hK K
      (try simp only [Act.put, List.setIfInBounds_toArray, List.set_cons_zero, List.set_cons_succ])
      repeat ((with_reducible refine treeIs ?_); first
        | (refine treeTakeX (a' := ?_) ⟨_, (HS17.out _ (Ext.refl X20).drew)⟩ (by rfl) rfl (by kernel_rfl) rfl ?_ ?_; rotate_left; (focus (intro V Q' hV hq; obtain ⟨hV1, hV2⟩ := hV; (repeat (first | go_guarded | go_skip | go_step)); (first | exact hq | exact wpList_nil hq)))))
      refine treeRun (by rfl) (fun K hK => ?_)
      go_simp
      refine (HU1.out _ hEb).mono ?_
      rintro e wv2 ⟨v2, rfl, hv2, hEq⟩
      have hEc : Ext X20 wv2 := (hEb).trans hEq
      have hv2r := Lib.hid (hv2.recs.lower (Nat.zero_le _))
      obtain ⟨Av2, cv2, rfl, _⟩ := hv2
      clear hEq
      refine hK.out _ _ ?_ ?_
      · exact (HS17.out _ hEc)
      clear hK K
      (try simp only [Act.put, List.setIfInBounds_toArray, List.set_cons_zero, List.set_cons_succ])
      refine treeRun (by rfl) (fun K hK => ?_)
      go_simp
      refine (HR2.out _ _ hEc hv2r.out).mono ?_
      rintro e wd ⟨rfl, hEq⟩
      have hEd : Ext X20 wd := (hEc).trans hEq
      clear hEq
      refine hK.out _ _ ?_ ?_
      · exact (HS17.out _ hEd)
      clear hK K
      (try simp only [Act.put, List.setIfInBounds_toArray, List.set_cons_zero, List.set_cons_succ])
      repeat ((with_reducible refine treeIs ?_); first
        | (refine treeTakeX (a' := ?_) ⟨_, (HS17.out _ (Ext.refl X20).drew)⟩ (by rfl) rfl (by kernel_rfl) rfl ?_ ?_; rotate_left; (focus (intro V Q' hV hq; obtain ⟨hV1, hV2⟩ := hV; (repeat (first | go_guarded | go_skip | go_step)); (first | exact hq | exact wpList_nil hq)))))
      refine treeDone ?_
      refine NoPanic.normal ?_
      go_upto_region 19 with fail
      clear hlen hlen' HT1 HU1 HR1 HR2
      refine wp_region_noPanic ?_
      refine wp_region_tree (S := (fun _ => True)) (.take 0 (.take 2 (.take 4 (.take 6 (.run2 1 (.run2 3 (.run 5 (.take 8 (.run 7 (.run 9 (.take 10 (.run 11 (.done))))))) 5 (.run 3 (.take 8 (.run 7 (.run 9 (.take 10 (.run 11 (.done)))))))) 5 (.run 1 (.run 3 (.take 8 (.run 7 (.run 9 (.take 10 (.run 11 (.done))))))))))))) (by kernel_rfl) (by kernel_rfl) (fun _ _ _ _ _ h => h) (trivial) ?_
      repeat ((with_reducible refine treeIs ?_); first
        | (refine treeTakeX (a' := ?_) ⟨X20, trivial⟩ (by rfl) rfl (by kernel_rfl) rfl ?_ ?_; rotate_left; (focus (intro V Q' hV hq; (repeat (first | go_guarded | go_skip | go_step)); (first | exact hq | exact wpList_nil hq)))))
      refine treeRun2 ?_ ?_
      · refine treeRun (by rfl) (fun K hK => ?_)
        obtain ⟨hV1, hV2⟩ := HS17.out _ (hEd.drew)
        go_simp
        refine hK.out _ _ ?_ ?_
        · exact trivial
        clear hK K
        (try simp only [Act.put, List.setIfInBounds_toArray, List.set_cons_zero, List.set_cons_succ])
        refine treeRun2 ?_ ?_
        · refine treeRun (by rfl) (fun K hK => ?_)
          go_simp
          refine (HT.out oth _ (hEd.drew)).mono ?_
          rintro e wt1 ⟨z1, rfl, hz1, hEq⟩
          have hEt1 : Ext X20 wt1 := (hEd.drew).trans hEq
          have hlt1 : X20.heap.size ≤ _ := (hEd.drew).size
          have hzz1 := Lib.hid hz1
          have hlo1 := Lib.hid hlt1
          have hEq1 := Lib.hid hEq
          obtain ⟨Az1, cz1, rfl, _⟩ := hz1
          clear hEq hlt1
          refine hK.out _ _ ?_ ?_
          · exact trivial
          clear hK K
          (try simp only [Act.put, List.setIfInBounds_toArray, List.set_cons_zero, List.set_cons_succ])
          refine treeRun (by rfl) (fun K hK => ?_)
          obtain ⟨hV1, hV2⟩ := HS17.out _ (hEt1)
          go_simp
          refine hK.out _ _ ?_ ?_
          · exact trivial
          clear hK K
          (try simp only [Act.put, List.setIfInBounds_toArray, List.set_cons_zero, List.set_cons_succ])
          repeat ((with_reducible refine treeIs ?_); first
            | (refine treeTakeX (a' := ?_) ⟨X20, trivial⟩ (by rfl) rfl (by kernel_rfl) rfl ?_ ?_; rotate_left; (focus (intro V Q' hV hq; (repeat (first | go_guarded | go_skip | go_step)); (first | exact hq | exact wpList_nil hq)))))
          refine treeRun (by rfl) (fun K hK => ?_)
          go_simp
          refine (HU.out oth _ (hEt1)).mono ?_
          rintro e wt2 ⟨z2, rfl, hz2, hEq⟩
          have hEt2 : Ext X20 wt2 := (hEt1).trans hEq
          have hlt2 : X20.heap.size ≤ _ := (hEt1).size
          have hzz2 := Lib.hid hz2
          have hlo2 := Lib.hid hlt2
          have hEq2 := Lib.hid hEq
          obtain ⟨Az2, cz2, rfl, _⟩ := hz2
          clear hEq hlt2
          refine hK.out _ _ ?_ ?_
          · exact trivial
          clear hK K
          (try simp only [Act.put, List.setIfInBounds_toArray, List.set_cons_zero, List.set_cons_succ])
          refine treeRun (by rfl) (fun K hK => ?_)
          have rQ := (hEt2.block _ (Array.getElem?_eq_some_iff.1 r16k).1).trans r16k
          have kQ := box_cell (j := 12) rQ rfl
          have fQ := box_free (j := 12) rQ
          have kQ3 := box_cell (j := 13) rQ rfl
          have fQ3 := box_free (j := 13) rQ
          go_simp
          refine hK.out _ _ ?_ ?_
          · exact trivial
          clear hK K
          (try simp only [Act.put, List.setIfInBounds_toArray, List.set_cons_zero, List.set_cons_succ])
          repeat ((with_reducible refine treeIs ?_); first
            | (refine treeTakeX (a' := ?_) ⟨X20, trivial⟩ (by rfl) rfl (by kernel_rfl) rfl ?_ ?_; rotate_left; (focus (intro V Q' hV hq; (repeat (first | go_guarded | go_skip | go_step)); (first | exact hq | exact wpList_nil hq)))))
          refine treeRun (by rfl) (fun K hK => ?_)
          go_simp
          refine hK.out _ _ ?_ ?_
          · exact trivial
          clear hK K
          (try simp only [Act.put, List.setIfInBounds_toArray, List.set_cons_zero, List.set_cons_succ])
          refine treeDone ?_
          refine NoPanic.normal ?_
          go_upto_region 20 with fail
          obtain ⟨Z, hZ⟩ : ∃ Z, Z = (wt2.setCell ⟨b16, 12, none⟩ (.slice Az1 m.ans.length cz1)).setCell ⟨b16, 13, none⟩ (.slice Az2 m.auth.length cz2) := ⟨_, rfl⟩
          rw [← hZ]
          have rZ : Z.heap[b16]? = some (.cells #[.int .u16 m.hd.id, .bool m.hd.qr, .int .u8 m.hd.op, .bool m.hd.aa, .bool m.hd.tc, .bool m.hd.rd, .bool m.hd.ra, .bool m.hd.z, .bool m.hd.ad, .bool m.hd.cd, .int .u8 m.hd.code, .slice qA m.qs.length qc, .slice Az1 m.ans.length cz1, .slice Az2 m.auth.length cz2, .slice xA m.extra.length xc, .bool m.he, .int .u16 m.ed.size, .int .u8 m.ed.ext, .int .u8 m.ed.ver, .int .u16 m.ed.flags, .slice oA2 m.ed.opts.length oc2] 52) := by rw [hZ]; exact row_set (row_set rQ 12 _) 13 _
          have hkZ : ∀ k, k ≠ b16 → Z.heap[k]? = wt2.heap[k]? := fun k hk => by rw [hZ]; exact (Below.heap_setCell _ ⟨b16, 13, none⟩ _ k hk).trans (Below.heap_setCell _ ⟨b16, 12, none⟩ _ k hk)
          have hZs := Lib.hid hZ
          clear hZ kQ fQ kQ3 fQ3 rQ
          have hbY : Y16.heap.size ≤ b16 := hloY16
          have hbX : b16 < X10.heap.size := (Array.getElem?_eq_some_iff.1 r16).1
          have hb20 : X10.heap.size ≤ X20.heap.size := hE20X.size
          have hbt : X20.heap.size ≤ wt2.heap.size := hEt2.size
          have hEYt : Ext Y16 wt2 := hY16.trans (hE20X.trans hEt2)
          have hEYZ : Ext Y16 Z := by rw [hZs.out]; exact (hEYt.setCell hbY _).setCell hbY _
          have hb18x : X10.heap.size ≤ b18 := hlo18
          have hb18s : b18 < X20.heap.size := (Array.getElem?_eq_some_iff.1 r18).1
          have r18z := (hkZ b18 (by omega)).trans ((hEt2.block _ hb18s).trans r18)
          have hlz1 : b16 < _ := Nat.lt_of_lt_of_le (Nat.lt_of_lt_of_le hbX hb20) hlo1.out
          have hlz2 : b16 < _ := Nat.lt_of_lt_of_le (Nat.lt_of_lt_of_le hbX hb20) hlo2.out
          obtain ⟨h7', h7⟩ := times_end hZs.out PM.out.1 HM.out hEYt hbY HM2.out (hY18.trans hEt2) hbX (hzz1.out.by_ fun k _ hk => hEq2.out.block k hk) hlz1 hzz2.out hlz2 hBd hBd2
          have e1 : m2.hd = m.hd := by rw [PM.out.1]
          have e2 : m2.he = m.he := by rw [PM.out.1]
          have e3 : m2.ed = m.ed := by rw [PM.out.1]
          have HSame := ref7_same m2 _ _ _ _ _ _ _ _ _ _ Z h7' h7
          rw [e1, e2, e3] at HSame
          rw [e1, e2, e3] at r18z
          have hwb : w.heap.size ≤ b16 := Nat.le_trans hw9.size hlo16
          have hwZ : Ext w Z := by rw [hZs.out]; exact ((hw20.trans hEt2).setCell hwb _).setCell hwb _
          rw [List.length_map, List.length_map] at HSame
          clear h7 h7' e1 e2 e3 hkZ
          go_wp2_with (first | (refine wpList_load_part (by rfl) 52 (.tmp 16) rfl b16 0 rfl [.int .u16 m.hd.id, .bool m.hd.qr, .int .u8 m.hd.op, .bool m.hd.aa, .bool m.hd.tc, .bool m.hd.rd, .bool m.hd.ra, .bool m.hd.z, .bool m.hd.ad, .bool m.hd.cd, .int .u8 m.hd.code, .slice qA m.qs.length qc, .slice Az1 m.ans.length cz1, .slice Az2 m.auth.length cz2, .slice xA m.extra.length xc, .bool m.he, .int .u16 m.ed.size, .int .u8 m.ed.ext, .int .u8 m.ed.ver, .int .u16 m.ed.flags, .slice oA2 m.ed.opts.length oc2] (row_all rZ) _ Tryz.underlying52 rfl (by kernel_rfl) ?_) | (refine wpList_load_part (by rfl) 52 (.tmp 18) rfl b18 0 rfl [.int .u16 m.hd.id, .bool m.hd.qr, .int .u8 m.hd.op, .bool m.hd.aa, .bool m.hd.tc, .bool m.hd.rd, .bool m.hd.ra, .bool m.hd.z, .bool m.hd.ad, .bool m.hd.cd, .int .u8 m.hd.code, .slice qB m2.qs.length qd, .slice aB m2.ans.length ad, .slice uB m2.auth.length ud, .slice xB m2.extra.length xd, .bool m.he, .int .u16 m.ed.size, .int .u8 m.ed.ext, .int .u8 m.ed.ver, .int .u16 m.ed.flags, .slice oB2 m.ed.opts.length od2] (row_all r18z) _ Tryz.underlying52 rfl (by kernel_rfl) ?_) | fail)
          refine HSame.mono ?_
          rintro e wS ⟨rfl, hES⟩
          go_wp2_with fail
          go_ret
          exact ⟨rfl, hwZ.trans hES⟩
        · refine treeRun (by rfl) (fun K hK => ?_)
          obtain ⟨hV1, hV2⟩ := HS17.out _ (hEd.drew)
          go_simp
          refine hK.out _ _ ?_ ?_
          · exact trivial
          clear hK K
          (try simp only [Act.put, List.setIfInBounds_toArray, List.set_cons_zero, List.set_cons_succ])
          refine treeRun (by rfl) (fun K hK => ?_)
          go_simp
          refine (HT.out oth _ (hEd.drew)).mono ?_
          rintro e wt1 ⟨z1, rfl, hz1, hEq⟩
          have hEt1 : Ext X20 wt1 := (hEd.drew).trans hEq
          have hlt1 : X20.heap.size ≤ _ := (hEd.drew).size
          have hzz1 := Lib.hid hz1
          have hlo1 := Lib.hid hlt1
          have hEq1 := Lib.hid hEq
          obtain ⟨Az1, cz1, rfl, _⟩ := hz1
          clear hEq hlt1
          refine hK.out _ _ ?_ ?_
          · exact trivial
          clear hK K
          (try simp only [Act.put, List.setIfInBounds_toArray, List.set_cons_zero, List.set_cons_succ])
          repeat ((with_reducible refine treeIs ?_); first
            | (refine treeTakeX (a' := ?_) ⟨X20, trivial⟩ (by rfl) rfl (by kernel_rfl) rfl ?_ ?_; rotate_left; (focus (intro V Q' hV hq; (repeat (first | go_guarded | go_skip | go_step)); (first | exact hq | exact wpList_nil hq)))))
          refine treeRun (by rfl) (fun K hK => ?_)
          go_simp
          refine (HU.out oth _ (hEt1)).mono ?_
          rintro e wt2 ⟨z2, rfl, hz2, hEq⟩
          have hEt2 : Ext X20 wt2 := (hEt1).trans hEq
          have hlt2 : X20.heap.size ≤ _ := (hEt1).size
          have hzz2 := Lib.hid hz2
          have hlo2 := Lib.hid hlt2
          have hEq2 := Lib.hid hEq
          obtain ⟨Az2, cz2, rfl, _⟩ := hz2
          clear hEq hlt2
          refine hK.out _ _ ?_ ?_
          · exact trivial
          clear hK K
          (try simp only [Act.put, List.setIfInBounds_toArray, List.set_cons_zero, List.set_cons_succ])
          refine treeRun (by rfl) (fun K hK => ?_)
          have rQ := (hEt2.block _ (Array.getElem?_eq_some_iff.1 r16k).1).trans r16k
          have kQ := box_cell (j := 12) rQ rfl
          have fQ := box_free (j := 12) rQ
          have kQ3 := box_cell (j := 13) rQ rfl
          have fQ3 := box_free (j := 13) rQ
          go_simp
          refine hK.out _ _ ?_ ?_
          · exact trivial
          clear hK K
          (try simp only [Act.put, List.setIfInBounds_toArray, List.set_cons_zero, List.set_cons_succ])
          repeat ((with_reducible refine treeIs ?_); first
            | (refine treeTakeX (a' := ?_) ⟨X20, trivial⟩ (by rfl) rfl (by kernel_rfl) rfl ?_ ?_; rotate_left; (focus (intro V Q' hV hq; (repeat (first | go_guarded | go_skip | go_step)); (first | exact hq | exact wpList_nil hq)))))
          refine treeRun (by rfl) (fun K hK => ?_)
          go_simp
          refine hK.out _ _ ?_ ?_
          · exact trivial
          clear hK K
          (try simp only [Act.put, List.setIfInBounds_toArray, List.set_cons_zero, List.set_cons_succ])
          refine treeDone ?_
          refine NoPanic.normal ?_
          go_upto_region 20 with fail
          obtain ⟨Z, hZ⟩ : ∃ Z, Z = (wt2.setCell ⟨b16, 12, none⟩ (.slice Az1 m.ans.length cz1)).setCell ⟨b16, 13, none⟩ (.slice Az2 m.auth.length cz2) := ⟨_, rfl⟩
          rw [← hZ]
          have rZ : Z.heap[b16]? = some (.cells #[.int .u16 m.hd.id, .bool m.hd.qr, .int .u8 m.hd.op, .bool m.hd.aa, .bool m.hd.tc, .bool m.hd.rd, .bool m.hd.ra, .bool m.hd.z, .bool m.hd.ad, .bool m.hd.cd, .int .u8 m.hd.code, .slice qA m.qs.length qc, .slice Az1 m.ans.length cz1, .slice Az2 m.auth.length cz2, .slice xA m.extra.length xc, .bool m.he, .int .u16 m.ed.size, .int .u8 m.ed.ext, .int .u8 m.ed.ver, .int .u16 m.ed.flags, .slice oA2 m.ed.opts.length oc2] 52) := by rw [hZ]; exact row_set (row_set rQ 12 _) 13 _
          have hkZ : ∀ k, k ≠ b16 → Z.heap[k]? = wt2.heap[k]? := fun k hk => by rw [hZ]; exact (Below.heap_setCell _ ⟨b16, 13, none⟩ _ k hk).trans (Below.heap_setCell _ ⟨b16, 12, none⟩ _ k hk)
          have hZs := Lib.hid hZ
          clear hZ kQ fQ kQ3 fQ3 rQ
          have hbY : Y16.heap.size ≤ b16 := hloY16
          have hbX : b16 < X10.heap.size := (Array.getElem?_eq_some_iff.1 r16).1
          have hb20 : X10.heap.size ≤ X20.heap.size := hE20X.size
          have hbt : X20.heap.size ≤ wt2.heap.size := hEt2.size
          have hEYt : Ext Y16 wt2 := hY16.trans (hE20X.trans hEt2)
          have hEYZ : Ext Y16 Z := by rw [hZs.out]; exact (hEYt.setCell hbY _).setCell hbY _
          have hb18x : X10.heap.size ≤ b18 := hlo18
          have hb18s : b18 < X20.heap.size := (Array.getElem?_eq_some_iff.1 r18).1
          have r18z := (hkZ b18 (by omega)).trans ((hEt2.block _ hb18s).trans r18)
          have hlz1 : b16 < _ := Nat.lt_of_lt_of_le (Nat.lt_of_lt_of_le hbX hb20) hlo1.out
          have hlz2 : b16 < _ := Nat.lt_of_lt_of_le (Nat.lt_of_lt_of_le hbX hb20) hlo2.out
          obtain ⟨h7', h7⟩ := times_end hZs.out PM.out.1 HM.out hEYt hbY HM2.out (hY18.trans hEt2) hbX (hzz1.out.by_ fun k _ hk => hEq2.out.block k hk) hlz1 hzz2.out hlz2 hBd hBd2
          have e1 : m2.hd = m.hd := by rw [PM.out.1]
          have e2 : m2.he = m.he := by rw [PM.out.1]
          have e3 : m2.ed = m.ed := by rw [PM.out.1]
          have HSame := ref7_same m2 _ _ _ _ _ _ _ _ _ _ Z h7' h7
          rw [e1, e2, e3] at HSame
          rw [e1, e2, e3] at r18z
          have hwb : w.heap.size ≤ b16 := Nat.le_trans hw9.size hlo16
          have hwZ : Ext w Z := by rw [hZs.out]; exact ((hw20.trans hEt2).setCell hwb _).setCell hwb _
          rw [List.length_map, List.length_map] at HSame
          clear h7 h7' e1 e2 e3 hkZ
          go_wp2_with (first | (refine wpList_load_part (by rfl) 52 (.tmp 16) rfl b16 0 rfl [.int .u16 m.hd.id, .bool m.hd.qr, .int .u8 m.hd.op, .bool m.hd.aa, .bool m.hd.tc, .bool m.hd.rd, .bool m.hd.ra, .bool m.hd.z, .bool m.hd.ad, .bool m.hd.cd, .int .u8 m.hd.code, .slice qA m.qs.length qc, .slice Az1 m.ans.length cz1, .slice Az2 m.auth.length cz2, .slice xA m.extra.length xc, .bool m.he, .int .u16 m.ed.size, .int .u8 m.ed.ext, .int .u8 m.ed.ver, .int .u16 m.ed.flags, .slice oA2 m.ed.opts.length oc2] (row_all rZ) _ Tryz.underlying52 rfl (by kernel_rfl) ?_) | (refine wpList_load_part (by rfl) 52 (.tmp 18) rfl b18 0 rfl [.int .u16 m.hd.id, .bool m.hd.qr, .int .u8 m.hd.op, .bool m.hd.aa, .bool m.hd.tc, .bool m.hd.rd, .bool m.hd.ra, .bool m.hd.z, .bool m.hd.ad, .bool m.hd.cd, .int .u8 m.hd.code, .slice qB m2.qs.length qd, .slice aB m2.ans.length ad, .slice uB m2.auth.length ud, .slice xB m2.extra.length xd, .bool m.he, .int .u16 m.ed.size, .int .u8 m.ed.ext, .int .u8 m.ed.ver, .int .u16 m.ed.flags, .slice oB2 m.ed.opts.length od2] (row_all r18z) _ Tryz.underlying52 rfl (by kernel_rfl) ?_) | fail)
          refine HSame.mono ?_
          rintro e wS ⟨rfl, hES⟩
          go_wp2_with fail
          go_ret
          exact ⟨rfl, hwZ.trans hES⟩
      · refine treeRun (by rfl) (fun K hK => ?_)
        obtain ⟨hV1, hV2⟩ := HS17.out _ (hEd.drew)
        go_simp
        refine hK.out _ _ ?_ ?_
        · exact trivial
        clear hK K
        (try simp only [Act.put, List.setIfInBounds_toArray, List.set_cons_zero, List.set_cons_succ])
        refine treeRun (by rfl) (fun K hK => ?_)
        obtain ⟨hV1, hV2⟩ := HS17.out _ (hEd.drew)
        go_simp
        refine hK.out _ _ ?_ ?_
        · exact trivial
        clear hK K
        (try simp only [Act.put, List.setIfInBounds_toArray, List.set_cons_zero, List.set_cons_succ])
        refine treeRun (by rfl) (fun K hK => ?_)
        go_simp
        refine (HT.out oth _ (hEd.drew)).mono ?_
        rintro e wt1 ⟨z1, rfl, hz1, hEq⟩
        have hEt1 : Ext X20 wt1 := (hEd.drew).trans hEq
        have hlt1 : X20.heap.size ≤ _ := (hEd.drew).size
        have hzz1 := Lib.hid hz1
        have hlo1 := Lib.hid hlt1
        have hEq1 := Lib.hid hEq
        obtain ⟨Az1, cz1, rfl, _⟩ := hz1
        clear hEq hlt1
        refine hK.out _ _ ?_ ?_
        · exact trivial
        clear hK K
        (try simp only [Act.put, List.setIfInBounds_toArray, List.set_cons_zero, List.set_cons_succ])
        repeat ((with_reducible refine treeIs ?_); first
          | (refine treeTakeX (a' := ?_) ⟨X20, trivial⟩ (by rfl) rfl (by kernel_rfl) rfl ?_ ?_; rotate_left; (focus (intro V Q' hV hq; (repeat (first | go_guarded | go_skip | go_step)); (first | exact hq | exact wpList_nil hq)))))
        refine treeRun (by rfl) (fun K hK => ?_)
        go_simp
        refine (HU.out oth _ (hEt1)).mono ?_
        rintro e wt2 ⟨z2, rfl, hz2, hEq⟩
        have hEt2 : Ext X20 wt2 := (hEt1).trans hEq
        have hlt2 : X20.heap.size ≤ _ := (hEt1).size
        have hzz2 := Lib.hid hz2
        have hlo2 := Lib.hid hlt2
        have hEq2 := Lib.hid hEq
        obtain ⟨Az2, cz2, rfl, _⟩ := hz2
        clear hEq hlt2
        refine hK.out _ _ ?_ ?_
        · exact trivial
        clear hK K
        (try simp only [Act.put, List.setIfInBounds_toArray, List.set_cons_zero, List.set_cons_succ])
        refine treeRun (by rfl) (fun K hK => ?_)
        have rQ := (hEt2.block _ (Array.getElem?_eq_some_iff.1 r16k).1).trans r16k
        have kQ := box_cell (j := 12) rQ rfl
        have fQ := box_free (j := 12) rQ
        have kQ3 := box_cell (j := 13) rQ rfl
        have fQ3 := box_free (j := 13) rQ
        go_simp
        refine hK.out _ _ ?_ ?_
        · exact trivial
        clear hK K
        (try simp only [Act.put, List.setIfInBounds_toArray, List.set_cons_zero, List.set_cons_succ])
        repeat ((with_reducible refine treeIs ?_); first
          | (refine treeTakeX (a' := ?_) ⟨X20, trivial⟩ (by rfl) rfl (by kernel_rfl) rfl ?_ ?_; rotate_left; (focus (intro V Q' hV hq; (repeat (first | go_guarded | go_skip | go_step)); (first | exact hq | exact wpList_nil hq)))))
        refine treeRun (by rfl) (fun K hK => ?_)
        go_simp
        refine hK.out _ _ ?_ ?_
        · exact trivial
        clear hK K
        (try simp only [Act.put, List.setIfInBounds_toArray, List.set_cons_zero, List.set_cons_succ])
        refine treeDone ?_
        refine NoPanic.normal ?_
        go_upto_region 20 with fail
        obtain ⟨Z, hZ⟩ : ∃ Z, Z = (wt2.setCell ⟨b16, 12, none⟩ (.slice Az1 m.ans.length cz1)).setCell ⟨b16, 13, none⟩ (.slice Az2 m.auth.length cz2) := ⟨_, rfl⟩
        rw [← hZ]
        have rZ : Z.heap[b16]? = some (.cells #[.int .u16 m.hd.id, .bool m.hd.qr, .int .u8 m.hd.op, .bool m.hd.aa, .bool m.hd.tc, .bool m.hd.rd, .bool m.hd.ra, .bool m.hd.z, .bool m.hd.ad, .bool m.hd.cd, .int .u8 m.hd.code, .slice qA m.qs.length qc, .slice Az1 m.ans.length cz1, .slice Az2 m.auth.length cz2, .slice xA m.extra.length xc, .bool m.he, .int .u16 m.ed.size, .int .u8 m.ed.ext, .int .u8 m.ed.ver, .int .u16 m.ed.flags, .slice oA2 m.ed.opts.length oc2] 52) := by rw [hZ]; exact row_set (row_set rQ 12 _) 13 _
        have hkZ : ∀ k, k ≠ b16 → Z.heap[k]? = wt2.heap[k]? := fun k hk => by rw [hZ]; exact (Below.heap_setCell _ ⟨b16, 13, none⟩ _ k hk).trans (Below.heap_setCell _ ⟨b16, 12, none⟩ _ k hk)
        have hZs := Lib.hid hZ
        clear hZ kQ fQ kQ3 fQ3 rQ
        have hbY : Y16.heap.size ≤ b16 := hloY16
        have hbX : b16 < X10.heap.size := (Array.getElem?_eq_some_iff.1 r16).1
        have hb20 : X10.heap.size ≤ X20.heap.size := hE20X.size
        have hbt : X20.heap.size ≤ wt2.heap.size := hEt2.size
        have hEYt : Ext Y16 wt2 := hY16.trans (hE20X.trans hEt2)
        have hEYZ : Ext Y16 Z := by rw [hZs.out]; exact (hEYt.setCell hbY _).setCell hbY _
        have hb18x : X10.heap.size ≤ b18 := hlo18
        have hb18s : b18 < X20.heap.size := (Array.getElem?_eq_some_iff.1 r18).1
        have r18z := (hkZ b18 (by omega)).trans ((hEt2.block _ hb18s).trans r18)
        have hlz1 : b16 < _ := Nat.lt_of_lt_of_le (Nat.lt_of_lt_of_le hbX hb20) hlo1.out
        have hlz2 : b16 < _ := Nat.lt_of_lt_of_le (Nat.lt_of_lt_of_le hbX hb20) hlo2.out
        obtain ⟨h7', h7⟩ := times_end hZs.out PM.out.1 HM.out hEYt hbY HM2.out (hY18.trans hEt2) hbX (hzz1.out.by_ fun k _ hk => hEq2.out.block k hk) hlz1 hzz2.out hlz2 hBd hBd2
        have e1 : m2.hd = m.hd := by rw [PM.out.1]
        have e2 : m2.he = m.he := by rw [PM.out.1]
        have e3 : m2.ed = m.ed := by rw [PM.out.1]
        have HSame := ref7_same m2 _ _ _ _ _ _ _ _ _ _ Z h7' h7
        rw [e1, e2, e3] at HSame
        rw [e1, e2, e3] at r18z
        have hwb : w.heap.size ≤ b16 := Nat.le_trans hw9.size hlo16
        have hwZ : Ext w Z := by rw [hZs.out]; exact ((hw20.trans hEt2).setCell hwb _).setCell hwb _
        rw [List.length_map, List.length_map] at HSame
        clear h7 h7' e1 e2 e3 hkZ
        go_wp2_with (first | (refine wpList_load_part (by rfl) 52 (.tmp 16) rfl b16 0 rfl [.int .u16 m.hd.id, .bool m.hd.qr, .int .u8 m.hd.op, .bool m.hd.aa, .bool m.hd.tc, .bool m.hd.rd, .bool m.hd.ra, .bool m.hd.z, .bool m.hd.ad, .bool m.hd.cd, .int .u8 m.hd.code, .slice qA m.qs.length qc, .slice Az1 m.ans.length cz1, .slice Az2 m.auth.length cz2, .slice xA m.extra.length xc, .bool m.he, .int .u16 m.ed.size, .int .u8 m.ed.ext, .int .u8 m.ed.ver, .int .u16 m.ed.flags, .slice oA2 m.ed.opts.length oc2] (row_all rZ) _ Tryz.underlying52 rfl (by kernel_rfl) ?_) | (refine wpList_load_part (by rfl) 52 (.tmp 18) rfl b18 0 rfl [.int .u16 m.hd.id, .bool m.hd.qr, .int .u8 m.hd.op, .bool m.hd.aa, .bool m.hd.tc, .bool m.hd.rd, .bool m.hd.ra, .bool m.hd.z, .bool m.hd.ad, .bool m.hd.cd, .int .u8 m.hd.code, .slice qB m2.qs.length qd, .slice aB m2.ans.length ad, .slice uB m2.auth.length ud, .slice xB m2.extra.length xd, .bool m.he, .int .u16 m.ed.size, .int .u8 m.ed.ext, .int .u8 m.ed.ver, .int .u16 m.ed.flags, .slice oB2 m.ed.opts.length od2] (row_all r18z) _ Tryz.underlying52 rfl (by kernel_rfl) ?_) | fail)
        refine HSame.mono ?_
        rintro e wS ⟨rfl, hES⟩
        go_wp2_with fail
        go_ret
        exact ⟨rfl, hwZ.trans hES⟩
end Go.Proofs.YtebkdcamblifoaaGreatDoor
namespace Go.Proofs.YtebkdcamblifoaaGreatDoor
set_option linter.unusedSimpArgs false
set_option linter.unusedVariables false
open Go.ChangeShapes Go.WideShapes Go.RowKit Go.Deep Go.Joins
set_option maxRecDepth 100000
section
variable {H : Type} {enc : TypeId × Value → H} {P : Program} {w : World} {base : Nat} {spare : Nat → Bool} {held : Bool}
theorem trodAll_five {t0 t1 t2 t3 t4 : TypeId} {args : Array Value} {ds : List (DataW H)} {ps : List MemPlace} (h : DataW.TrodAll enc P w base spare held [t0, t1, t2, t3, t4] args.toList ds ps) :
    ∃ v0 v1 v2 v3 v4 d0 d1 d2 d3 d4 p0 p1 p2 p3 p4, args = #[v0, v1, v2, v3, v4] ∧ ds = [d0, d1, d2, d3, d4] ∧ ps = p0 ++ p1 ++ p2 ++ p3 ++ p4 ∧ DataW.Trod enc P w base spare held t0 v0 d0 p0 ∧ DataW.Trod enc P w base spare held t1 v1 d1 p1 ∧ DataW.Trod enc P w base spare held t2 v2 d2 p2 ∧ DataW.Trod enc P w base spare held t3 v3 d3 p3 ∧ DataW.Trod enc P w base spare held t4 v4 d4 p4 := by
  obtain ⟨v0, vs0, d0, ds0, p0, q0, hargs, rfl, rfl, h0, r0⟩ := trodAll_cons h
  obtain ⟨v1, vs1, d1, ds1, p1, q1, rfl, rfl, rfl, h1, r1⟩ := trodAll_cons r0
  obtain ⟨v2, vs2, d2, ds2, p2, q2, rfl, rfl, rfl, h2, r2⟩ := trodAll_cons r1
  obtain ⟨v3, vs3, d3, ds3, p3, q3, rfl, rfl, rfl, h3, r3⟩ := trodAll_cons r2
  obtain ⟨v4, vs4, d4, ds4, p4, q4, rfl, rfl, rfl, h4, r4⟩ := trodAll_cons r3
  obtain ⟨rfl, rfl, rfl⟩ := trodAll_nil r4
  exact ⟨v0, v1, v2, v3, v4, d0, d1, d2, d3, d4, p0, p1, p2, p3, p4, by cases args; simp_all, rfl, by simp, h0, h1, h2, h3, h4⟩
end
end Go.Proofs.YtebkdcamblifoaaGreatDoor
namespace Go.Proofs.YtebkdcamblifoaaGreatDoor
set_option linter.unusedSimpArgs false
set_option linter.unusedVariables false
open Go.ChangeShapes Go.WideShapes Go.ChangeAt Go.RowKit
set_option maxRecDepth 100000

theorem answerTimes_contract (H : Type) (enc : TypeId × Value → H) (W : World) (base : Nat) (args : Array Value) (ds gs : List (DataW H)) (before : List MemPlace)
    (hval : ∀ (j : Nat) t v, Tryz.f5.params[j]? = some t → args[j]? = some v → Value.okWide Tryz.prog W .any base t v)
    (hW : DataW.Whole enc Tryz.prog Tryz.f5.params.toList Rows.answerTimesSpec.vars false W args.toList ds gs before)
    (hsz : (DataW.weightsEach Tryz.prog (Tryz.f5.params.toList ++ (OpenSpec.ofChange Rows.answerTimesSpec).bare.plain.varTypes Tryz.prog) (ds ++ gs)).all (· ≤ reachBytes) = true)
    (hL : laidMetH Tryz.prog laidL W) :
    Calls Tryz.prog 5 args W fun e W' => ∃ v, e = .returned v ∧ Rows.answerTimesSpec.post enc Tryz.prog Tryz.f5 false true false false W args v W' := by
  have hW' := hW
  have hp : ∀ t ∈ Tryz.f5.params.toList, Tryz.prog.readableRec t = true ∧ t < Tryz.prog.types.size := by
    have h : (Tryz.f5.params.toList.all fun t => Tryz.prog.readableRec t && decide (t < Tryz.prog.types.size)) = true := by kernel_rfl
    simpa only [List.all_eq_true, Bool.and_eq_true, decide_eq_true_eq] using h
  have hg := laid_of hL
  have hb := laidbits_of hL
  obtain ⟨p, q, hA0, hV, rfl, _, _⟩ := hW
  have hA : DataW.TrodAll enc Tryz.prog W 0 (fun _ => true) true Tryz.f5.params.toList args.toList ds p := hA0
  clear hA0
  rw [Tryz.params5] at hA hval hsz
  obtain ⟨rfl, rfl⟩ := trodVars_none hV
  obtain ⟨v0, v1, v2, v3, v4, d0, d1, d2, d3, d4, p0, p1, p2, p3, p4, rfl, rfl, rfl, h0, h1, h2, h3, h4⟩ := trodAll_five hA
  obtain ⟨n, rfl, hn⟩ := open_str (hval 0 _ _ rfl rfl) h0
  obtain ⟨vc, vs, vo, ss, oo, rfl, hvs, hvo, hvc, hin, _, _⟩ := open_verdict7 (hval 1 _ _ rfl rfl) h1
  obtain ⟨tl, rfl, ht1, ht2⟩ := open_u32 (hval 2 _ _ rfl rfl) h2
  obtain ⟨ot, rfl, ho1, ho2⟩ := open_u32 (hval 3 _ _ rfl rfl) h3
  obtain ⟨sz, rfl, hs1, hs2⟩ := open_u16 (hval 4 _ _ rfl rfl) h4
  refine (law28_times n vc tl ot sz vs vo ss oo W hg hb ⟨hn, hvc, ⟨ht1, ht2⟩, hvs, hvo, fun s hs => ⟨(hin s (List.mem_append.2 (.inl hs))).1.1, (hin s (List.mem_append.2 (.inl hs))).1.2.1⟩, fun s hs => ⟨(hin s (List.mem_append.2 (.inr hs))).1.1, (hin s (List.mem_append.2 (.inr hs))).1.2.1⟩⟩ ⟨ho1, ho2⟩ ⟨hs1, hs2⟩).mono ?_
  rintro e W' ⟨rfl, hE⟩
  exact ⟨_, rfl, post_true laid_out rfl (by kernel_rfl) Tryz.underlying4 hp hW' rfl hE⟩

theorem answerTimes_reads (os : Os) {H : Type} (enc : TypeId × Value → H) : ∃ places, DataW.whole enc Tryz.prog ((laidWorld os).forCall (fun _ _ => 0) ⟨#[], #[.string ⟨#[]⟩, .agg #[.int .u8 0, .slice none 0 0, .slice none 0 0], .int .u32 0, .int .u32 0, .int .u16 0], []⟩).memory Tryz.f5.params.toList Rows.answerTimesSpec.vars false (#[.string ⟨#[]⟩, .agg #[.int .u8 0, .slice none 0 0, .slice none 0 0], .int .u32 0, .int .u32 0, .int .u16 0] : Array Value).toList 8 = some ([.lit (.string []), .agg [.lit (.int .u8 0), .nil, .nil], .lit (.int .u32 0), .lit (.int .u32 0), .lit (.int .u16 0)], [], places) :=
  ⟨[], by kernel_rfl⟩
theorem answerTimes_lifted (os : Os) (started : os.Started) (H : Type) (enc : TypeId × Value → H) (F : Stop.Interp) :
    ReturnsInHanded {} Tryz.checked os 5 .any ((OpenSpec.ofChange Rows.answerTimesSpec).preRow enc Tryz.prog Tryz.f5 Rows.answerTimesRow.domain false Rows.answerTimesRow.laid) (((OpenSpec.ofChange Rows.answerTimesSpec).at F).post enc Tryz.prog Tryz.f5 false true false false) := by
  obtain ⟨places, hx⟩ := answerTimes_reads os enc
  refine returnsInHanded_of_row (C := Tryz.checked) (s := OpenSpec.ofChange Rows.answerTimesSpec) own_knob started (by kernel_rfl) Tryz.func5
    (witness_row_at (enc := enc) (C := Tryz.checked) false (laidWorld os) #[.string ⟨#[]⟩, .agg #[.int .u8 0, .slice none 0 0, .slice none 0 0], .int .u32 0, .int .u32 0, .int .u16 0] rfl (by kernel_rfl) (by kernel_rfl) (by kernel_rfl)
      (OpenSpec.preRow_of_cond 8 hx (by kernel_rfl) (fun k hk => by cases hk) (by kernel_rfl) (laid_met os _))) ?_
  intro W base args ds gs before hval hW _ _ hsz hL _ _
  exact answerTimes_contract H enc W base args ds gs before hval hW hsz hL
theorem answerTimes_said : Rows.AnswerTimesSaid :=
  OpenClaim.holds_of_cond 5 Tryz.f5 rfl rfl rfl rfl rfl rfl rfl ⟨rfl, rfl, rfl, rfl, rfl⟩ rfl rfl rfl rfl rfl (by kernel_rfl) Tryz.func5 (by kernel_rfl)
    (of_decide_eq_true (by kernel_rfl)) (by unfold Func.isWrapper; first | (rw [if_pos (by decide +kernel)]; kernel_rfl) | (rw [if_neg (by decide +kernel)]; exact ⟨rfl, rfl⟩))
    (fun os started H enc _ F => by rw [OpenClaim.pre_eq_preRow]; exact answerTimes_lifted os started H enc F)
/-- THE CARD. -/
theorem answerTimes_card : Rows.AnswerTimesCardSaid :=
  Claim7.holds_tied_plain_at .later [] _ _ _ _ answerTimes_said (fun _ h => by cases h) (by kernel_rfl) (fun _ h => by cases h) answerTimes_row_tie rfl ⟨rfl, rfl⟩ (by kernel_rfl) rfl
    (fun f fn hf hfn => by
      obtain rfl : f = 5 := Option.some.inj ((show Tryz.prog.funcNamed Rows.answerTimesRow.func = some 5 by kernel_rfl).symm.trans hf) |>.symm
      obtain rfl : fn = Tryz.f5 := (Option.some.inj (Tryz.func5.symm.trans hfn)).symm
      refine ⟨by kernel_rfl, fun j t ht => ?_⟩
      have h : (Tryz.f5.params.toList.all fun t => !Tryz.prog.wantsStandIn t) = true := by kernel_rfl
      have h2 := List.all_eq_true.1 h t (by simpa using Array.mem_of_getElem? ht)
      exact (by simpa using h2 : Tryz.prog.wantsStandIn t = false))
    (by kernel_rfl)
#print axioms answerTimes_card
end Go.Proofs.YtebkdcamblifoaaGreatDoor
