/- A slot's shards lie on disks of their own: the law's walk, by hand (it holds an array of six in memory). No condition. -/
import Derived.Test.YthglackkhajapaaPPlaceApartx1
import Derived.Test.YthglackkhajapaaPlaceApartPlc
namespace Go.Proofs.Ythglackkhajapaa.Apart
open Go.RowKit Go.Proofs.Ythglackkhajapaa.PPlaceApart Go.Proofs.YthglackkhajapaaW.PrintWords Go.Proofs.YthglackkhajapaaW.PrintLast Go.Proofs.YthglackkhajapaaW.PrintMore Go.Proofs.Ythglackkhajapaa.Fld Go.Proofs.Ythglackkhajapaa.PlaceApartPlc
set_option linter.unusedVariables false
theorem getD_rep (m : Nat) : (List.replicate 6 false).getD m false = false := by
  rw [List.getD_eq_getElem?_getD, List.getElem?_replicate]
  split <;> rfl
theorem cell_of {bs : List Bool} {n : Nat} {b : Bool} (hl : bs.length = 6) (hn : n < 6) (h : bs.getD n false = b) : (bs.map Value.bool).toArray[n]? = some (.bool b) := by
  rw [List.getElem?_toArray, List.getElem?_map]
  rw [List.getD_eq_getElem?_getD] at h
  rw [List.getElem?_eq_getElem (by omega)] at h ⊢
  simp only [Option.getD_some] at h
  simp [h]
theorem fresh_place {d p i : Int} {j : Nat} {bs : List Bool} (d0 : 0 ≤ d) (d1 : d < 4) (p0 : 0 ≤ p) (p1 : p < 3) (i0 : 0 ≤ i) (hlt : (j : Int) < 1 + d + p) (_hl : bs.length = 6) (hi : ∀ m, m < 6 → bs.getD m false = true → ∃ t : Nat, t < j ∧ (i + t) % (1 + d + p) = (m : Int)) :
    ∃ n : Nat, (i + j) % (1 + d + p) = (n : Int) ∧ n < 6 ∧ bs.getD n false = false := by
  have h0 := Int.emod_nonneg (i + j) (show 1 + d + p ≠ 0 by omega)
  have h1 := Int.emod_lt_of_pos (i + j) (show 0 < 1 + d + p by omega)
  refine ⟨((i + j) % (1 + d + p)).toNat, by omega, by omega, ?_⟩
  cases hb : bs.getD ((i + j) % (1 + d + p)).toNat false with
  | false => rfl
  | true =>
    exfalso
    obtain ⟨t, ht, e⟩ := hi _ (by omega) hb
    have e2 : (i + t) % (1 + d + p) = (i + j) % (1 + d + p) := by omega
    have e3 := Int.emod_emod_of_dvd (i + j) (Int.dvd_refl (1 + d + p))
    have h4 : ((i + j) - (i + t)) % (1 + d + p) = 0 := Int.emod_eq_zero_of_dvd (Int.dvd_of_emod_eq_zero (Int.emod_eq_emod_iff_emod_sub_eq_zero.1 e2.symm))
    rw [show (i + (j : Int)) - (i + t) = (j : Int) - t by omega, Int.emod_eq_of_lt (by omega) (by omega)] at h4
    omega
theorem cells_set {bs : List Bool} {n : Nat} (hn : n < bs.length) : ((bs.map Value.bool).toArray).setIfInBounds n (.bool true) = ((bs.set n true).map Value.bool).toArray := by
  rw [List.setIfInBounds_toArray, List.map_set]
theorem set_inv {d p i : Int} {j n : Nat} {bs : List Bool} (hl : bs.length = 6) (hn6 : n < 6) (hn : (i + j) % (1 + d + p) = (n : Int)) (hi : ∀ m, m < 6 → bs.getD m false = true → ∃ t : Nat, t < j ∧ (i + t) % (1 + d + p) = (m : Int)) :
    ∀ m, m < 6 → (bs.set n true).getD m false = true → ∃ t : Nat, t < j + 1 ∧ (i + t) % (1 + d + p) = (m : Int) := by
  intro m hm h
  by_cases e : n = m
  · subst e; exact ⟨j, by omega, hn⟩
  · rw [List.getD_eq_getElem?_getD, List.getElem?_set_ne e, ← List.getD_eq_getElem?_getD] at h
    obtain ⟨t, ht, e2⟩ := hi m hm h
    exact ⟨t, by omega, e2⟩
theorem two_areas {q : Int} (q0 : 0 ≤ q) (q1 : q < 1048576) : ∃ va vb : Int, place_Area.f q = some (va, 0) ∧ place_Area.f (q + 1) = some (vb, 0) ∧ 0 ≤ va ∧ 0 ≤ vb ∧ va + vb = 24 := by
  refine ⟨q % 2 * 24, 24 - q % 2 * 24, ?_, ?_, by omega, by omega, by omega⟩
  · unfold place_Area.f
    rw [if_neg (by omega), if_neg (by omega), tmod_pos (by omega), wrap64_in (by omega) (by omega)]
  · unfold place_Area.f
    rw [if_neg (by omega), if_neg (by omega), tmod_pos (by omega), show (q + 1) % 2 * 24 = 24 - q % 2 * 24 by omega, wrap64_in (by omega) (by omega)]
set_option maxHeartbeats 8000000 in
set_option maxRecDepth 100000 in
theorem walk (a0 a1 a2 a3 : Int) (w : World) :
    Calls Try.prog 5 #[.int .i64 a0, .int .i64 a1, .int .i64 a2, .int .i64 a3] w fun e w' => e = .returned (.bool true) ∧ Below w.heap.size w w' := by
  have hu24 := Try.underlying24
  have HB := Aside0.mk (Below.refl w.heap.size w)
  have A5 : Aside0 (ossuarylaw16_awake.f = some true) := ⟨by decide +kernel⟩
  obtain ⟨d, d0, d1, ed⟩ := mod_in a0 4 (by omega) (by omega)
  obtain ⟨p, p0, p1, ep⟩ := mod_in a1 3 (by omega) (by omega)
  obtain ⟨i, i0, i1, ei⟩ := mod_in a2 24 (by omega) (by omega)
  obtain ⟨q, q0, q1, eq⟩ := mod_in a3 1048576 (by omega) (by omega)
  go_enter Try.func5, Try.ntmps5
  go_wp2_with (first
    | (go_at_call 32; (with_reducible refine (ossuarylaw16_awake.calls true _ A5.out).mono ?_); rintro e w17 ⟨rfl, hb⟩; have n0_ := Aside0.mk (below_step (by repeat (first | (with_reducible first | exact HB.out | apply below_alloc | apply pw_below_drewN | apply below_drew1) | exact HB.out)) hb); clear HB; have HB := n0_; clear n0_; (try clear hb))
    | ((with_reducible refine gate_dst (N := 9) rfl ?_); refine box_event ?hg (N := 9) ?hd (cs := #[.int .i64 0, .int .i64 0]) (t := 24) ?hr ?_; (case hd => rfl); (case hg => rfl); (case hr => first | (go_simp; done) | (go_simp; rfl)); intro gb126 hg w18 hbox hb;
       have n0_ := Aside0.mk (below_step (by repeat (first | (with_reducible first | exact HB.out | apply below_alloc | apply pw_below_drewN | apply below_drew1) | exact HB.out)) hb); have n1_ := Aside0.mk (hbox); have n2_ := Aside0.mk ((by rw [hg]; exact (below_size (by repeat (first | (with_reducible first | exact HB.out | apply below_alloc | apply pw_below_drewN | apply below_drew1) | exact HB.out))) : w.heap.size ≤ gb126));
       clear HB; have HB := n0_; have BK126 := n1_; have GE126 := n2_; clear n0_ n1_ n2_; clear hb hbox hg; have hcz19_0 : w18.cell? ⟨gb126, 0, none⟩ = some (.int .i64 0) := (blk_cell BK126.out 0).trans rfl; have hcz19_1 : w18.cell? ⟨gb126, 1, none⟩ = some (.int .i64 0) := (blk_cell BK126.out 1).trans rfl; have hfz19_0 := blk_frozen BK126.out 0; have hfz19_1 := blk_frozen BK126.out 1)
    | ((with_reducible refine gate_dst (N := 13) rfl ?_); refine box_event ?hg (N := 13) ?hd (cs := #[.bool false, .bool false, .bool false, .bool false, .bool false, .bool false]) (t := 35) ?hr ?_; (case hd => rfl); (case hg => rfl); (case hr => first | (go_simp; done) | (go_simp; rfl)); intro gs hg w20 hbox hb;
       have n0_ := Aside0.mk (below_step (by repeat (first | (with_reducible first | exact HB.out | apply below_alloc | apply pw_below_drewN | apply below_drew1 | refine below_set ?_ GE126.out) | exact HB.out)) hb); have n1_ := Aside0.mk (hbox); have n2_ := Aside0.mk ((by rw [hg]; exact (below_size (by repeat (first | (with_reducible first | exact HB.out | apply below_alloc | apply pw_below_drewN | apply below_drew1 | refine below_set ?_ GE126.out) | exact HB.out))) : w.heap.size ≤ gs));
       have n3_ := Aside0.mk (blk_below (g := gb126) (o := .cells #[.int .i64 (1 + d), .int .i64 p] 24 (0, 0)) (by (with_reducible repeat (first | refine blk_drewN ?_ _ | refine blk_drew ?_ | refine blk_alloc ?_ _)); refine blk_put (cs := #[.int .i64 (1 + d), .int .i64 0]) ?_ 1 _ rfl; (with_reducible repeat (first | refine blk_drewN ?_ _ | refine blk_drew ?_ | refine blk_alloc ?_ _)); refine blk_put (cs := #[.int .i64 0, .int .i64 0]) ?_ 0 _ rfl; (with_reducible repeat (first | refine blk_drewN ?_ _ | refine blk_drew ?_ | refine blk_alloc ?_ _)); exact BK126.out) hb);
       have n4_ := Aside0.mk ((by rw [hg]; exact Nat.ne_of_lt (blk_lt (g := gb126) (o := .cells #[.int .i64 (1 + d), .int .i64 p] 24 (0, 0)) (by (with_reducible repeat (first | refine blk_drewN ?_ _ | refine blk_drew ?_ | refine blk_alloc ?_ _)); refine blk_put (cs := #[.int .i64 (1 + d), .int .i64 0]) ?_ 1 _ rfl; (with_reducible repeat (first | refine blk_drewN ?_ _ | refine blk_drew ?_ | refine blk_alloc ?_ _)); refine blk_put (cs := #[.int .i64 0, .int .i64 0]) ?_ 0 _ rfl; (with_reducible repeat (first | refine blk_drewN ?_ _ | refine blk_drew ?_ | refine blk_alloc ?_ _)); exact BK126.out)) : gb126 ≠ gs));
       clear HB; clear BK126; have HB := n0_; have BKS := n1_; have GES := n2_; have BK126 := n3_; have NB := n4_; clear n0_ n1_ n2_ n3_ n4_; clear hb hbox hg))
  go_loopw [14] (fun v14 wr => ∃ (j : Nat) (bs : List Bool), v14 = .int .i64 j ∧ (j : Int) ≤ 1 + d + p ∧ Aside0 (bs.length = 6) ∧ Aside0 (∀ m, m < 6 → bs.getD m false = true → ∃ t : Nat, t < j ∧ (i + t) % (1 + d + p) = (m : Int)) ∧ Aside0 (wr.heap[gb126]? = some (.cells #[.int .i64 (1 + d), .int .i64 p] 24 (0, 0))) ∧ Aside0 (wr.heap[gs]? = some (.cells (bs.map Value.bool).toArray 35 (0, 0))) ∧ Aside0 (Below w.heap.size w wr)) (fun v _ => (1 + d + p - intOf v).toNat)
  case atStart => exact ⟨0, List.replicate 6 false, rfl, by omega, ⟨rfl⟩, ⟨by intro m hm h; rw [getD_rep m] at h; cases h⟩, BK126, BKS, HB⟩
  case round =>
    clear BK126 BKS HB
    obtain ⟨j, bs, rfl, hj, HL, HI, BK126, BKS, HB⟩ := hrel
    by_cases hlt : (j : Int) < 1 + d + p
    · obtain ⟨n, hn, hn6, hfalse⟩ := fresh_place d0 d1 p0 p1 i0 hlt HL.out HI.out
      have HDk : Aside0 (place_Disk.f (1 + d) p i j = some ((n : Int), 0)) := ⟨by rw [disk_yes (by omega) (by omega) p0 (by omega) i0 (by omega) (by omega) hlt, hn]⟩
      have hcell : wr.cell? ⟨gs, n, none⟩ = some (.bool false) := (blk_cell BKS.out n).trans (cell_of HL.out hn6 hfalse)
      have hcz0 : wr.cell? ⟨gb126, 0, none⟩ = some (.int .i64 (1 + d)) := (blk_cell BK126.out 0).trans rfl
      have hcz1 : wr.cell? ⟨gb126, 1, none⟩ = some (.int .i64 p) := (blk_cell BK126.out 1).trans rfl
      have q2 : decide ((j : Int) < 1 + d + p) = true := decide_eq_true hlt
      have q3 : decide ((n : Int) < 0) = false := decide_eq_false (by omega)
      have q4 : decide (1 + d + p ≤ (n : Int)) = false := decide_eq_false (by have := Int.emod_lt_of_pos (i + j) (show 0 < 1 + d + p by omega); omega)
      have q5 : decide (0 ≤ (n : Int)) = true := decide_eq_true (by omega)
      have q6 : decide ((n : Int) < 6) = true := decide_eq_true (by omega)
      go_wp2_with (first
        | (go_at_call 29; refine (place_Disk.calls (1 + d) p i j n 0 _ HDk.out).mono ?_; rintro e w22 ⟨rfl, hb⟩;
           have n0_ := Aside0.mk (below_step (by repeat (first | (with_reducible first | exact HB.out | apply below_alloc | apply pw_below_drewN | apply below_drew1 | refine below_set ?_ GE126.out | refine below_set ?_ GES.out) | exact HB.out)) hb);
           have n1_ := Aside0.mk (blk_below (g := gb126) (o := .cells #[.int .i64 (1 + d), .int .i64 p] 24 (0, 0)) (by (with_reducible repeat (first | refine blk_drewN ?_ _ | refine blk_drew ?_ | refine blk_alloc ?_ _)); exact BK126.out) hb);
           have n2_ := Aside0.mk (blk_below (g := gs) (o := .cells (bs.map Value.bool).toArray 35 (0, 0)) (by (with_reducible repeat (first | refine blk_drewN ?_ _ | refine blk_drew ?_ | refine blk_alloc ?_ _)); exact BKS.out) hb);
           clear HB BK126 BKS hcell hcz0 hcz1; have HB := n0_; have BK126 := n1_; have BKS := n2_; clear n0_ n1_ n2_ hb;
           have hcell : w22.cell? ⟨gs, n, none⟩ = some (.bool false) := (blk_cell BKS.out n).trans (cell_of HL.out hn6 hfalse);
           have hfz := blk_frozen BKS.out n)
        | (go_at_call 31; refine (ossuarylaw0_Num.calls 0 0 _ rfl).mono ?_; rintro e w' ⟨rfl, ⟨nd, rfl⟩⟩))
      go_roundw
      case rel => exact ⟨j + 1, bs.set n true, by go_num, by omega, ⟨by rw [List.length_set]; exact HL.out⟩, ⟨set_inv HL.out hn6 hn HI.out⟩, ⟨by (with_reducible repeat (first | refine blk_drewN ?_ _ | refine blk_drew ?_ | refine blk_alloc ?_ _)); refine blk_far ?_ NB.out _; (with_reducible repeat (first | refine blk_drewN ?_ _ | refine blk_drew ?_ | refine blk_alloc ?_ _)); exact BK126.out⟩, ⟨by refine blk_put (cs := (bs.map Value.bool).toArray) ?_ n _ (cells_set (by rw [HL.out]; exact hn6)); (with_reducible repeat (first | refine blk_drewN ?_ _ | refine blk_drew ?_ | refine blk_alloc ?_ _)); exact BKS.out⟩, ⟨(by repeat (first | (with_reducible first | exact HB.out | apply below_alloc | apply pw_below_drewN | apply below_drew1 | refine below_set ?_ GE126.out | refine below_set ?_ GES.out) | exact HB.out))⟩⟩
      case measure => simp only [intOf]; omega
    · have hjk : (j : Int) = 1 + d + p := by omega
      have q2 : decide ((j : Int) < 1 + d + p) = false := decide_eq_false hlt
      clear HL HI BK126 BKS
      have HS : Aside0 (place_Slot.f i = some (48 + i, 0)) := ⟨by unfold place_Slot.f; rw [if_neg (by omega), if_neg (by omega), wrap64_in (by omega) (by omega)]⟩
      have HT : Aside0 (place_Sectors.f (i + 1) = some (49 + i, 0)) := ⟨by unfold place_Sectors.f; rw [if_neg (by omega), if_neg (by omega), show 48 + (i + 1) = 49 + i by omega, wrap64_in (by omega) (by omega)]⟩
      obtain ⟨va, vb, h1_, h2_, e1, e2, e3⟩ := two_areas q0 q1
      have HA1 := Aside0.mk h1_
      have HA2 := Aside0.mk h2_
      clear h1_ h2_
      have f1 : decide (0 ≤ va) = true := decide_eq_true e1
      have f2 : decide (0 ≤ vb) = true := decide_eq_true e2
      have f3 : decide (48 ≤ 48 + i) = true := decide_eq_true (by omega)
      have f4 : wrap64 (va + vb) = 24 := by rw [e3]; exact wrap64_in (by omega) (by omega)
      have f5 : 49 + i - 1 = 48 + i := by omega
      go_wp2_with (first
        | (go_at_call 27; (with_reducible refine (place_Slot.calls i _ _ _ HS.out).mono ?_); rintro e w' ⟨rfl, ⟨nd, rfl⟩⟩)
        | (go_at_call 25; (with_reducible refine (place_Area.calls q _ _ _ HA1.out).mono ?_); rintro e w' ⟨rfl, ⟨nd, rfl⟩⟩)
        | (go_at_call 25; (with_reducible refine (place_Area.calls (q + 1) _ _ _ HA2.out).mono ?_); rintro e w' ⟨rfl, ⟨nd, rfl⟩⟩)
        | (go_at_call 23; (with_reducible refine (place_Sectors.calls (i + 1) _ _ _ HT.out).mono ?_); rintro e w' ⟨rfl, ⟨nd, rfl⟩⟩)
        | (go_at_call 31; (with_reducible refine (ossuarylaw0_Num.calls 0 0 _ rfl).mono ?_); rintro e w' ⟨rfl, ⟨nd, rfl⟩⟩))
      go_ret
      exact ⟨rfl, (by repeat (first | (with_reducible first | exact HB.out | apply below_alloc | apply pw_below_drewN | apply below_drew1 | refine below_set ?_ GE126.out | refine below_set ?_ GES.out) | exact HB.out))⟩
end Go.Proofs.Ythglackkhajapaa.Apart
