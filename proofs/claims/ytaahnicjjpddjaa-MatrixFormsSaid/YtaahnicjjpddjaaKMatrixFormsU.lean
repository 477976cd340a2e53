/- Tactic blocks that come often, one lemma each. No condition. -/
import Derived.Test.YtaahnicjjpddjaaKMatrixFormsSh
namespace Go.Proofs.Ytaahnicjjpddjaa
open Go.RowKit Go.Proofs.YtaahnicjjpddjaaW.PrintWords Go.Proofs.YtaahnicjjpddjaaW.PrintLast Go.Proofs.YtaahnicjjpddjaaW.PrintMore
theorem ua {P : Prop} (h : P := by repeat (first | (with_reducible first | exact HB.out | apply below_alloc | apply pw_below_drewN | apply below_drew1 | refine below_set ?_ GE115.out | refine below_set ?_ GE120.out | refine below_set ?_ GE125.out | refine below_set ?_ GE133.out | refine below_set ?_ GE141.out | refine below_set ?_ GE146.out) | exact HB.out)) : P := h
theorem ub {P : Prop} (h : P := by repeat (first | (with_reducible first | exact HB.out | apply below_alloc | apply pw_below_drewN | apply below_drew1 | refine below_set ?_ GE115.out | refine below_set ?_ GE120.out | refine below_set ?_ GE125.out | refine below_set ?_ GE133.out | refine below_set ?_ GE141.out) | exact HB.out)) : P := h
theorem uc {P : Prop} (h : P := by repeat (first | (with_reducible first | exact HB.out | apply below_alloc | apply pw_below_drewN | apply below_drew1 | refine below_set ?_ GE115.out | refine below_set ?_ GE120.out | refine below_set ?_ GE125.out | refine below_set ?_ GE133.out) | exact HB.out)) : P := h
theorem ud {P : Prop} (h : P := by rw [hg]; exact Nat.ne_of_gt (blk_lt (by (with_reducible repeat (first | apply bN | apply bD | apply bA)); first | exact BK8.out | (refine blk_far BK8.out ?_ _; assumption) | (refine blk_put (cs := #[.slice none 0 0]) BK8.out 0 _ rfl)))) : P := h
theorem ue {P : Prop} (h : P := by repeat (first | (with_reducible first | exact HB.out | apply below_alloc | apply pw_below_drewN | apply below_drew1 | refine below_set ?_ GE115.out | refine below_set ?_ GE120.out | refine below_set ?_ GE125.out) | exact HB.out)) : P := h
theorem uf {P : Prop} (h : P := by rw [hg]; exact Nat.ne_of_gt (Nat.lt_of_lt_of_le (blk_lt BK6.out) (below_size (by repeat (first | (with_reducible first | exact HBr.out | apply lA | apply lN | apply lD | refine lT ?_ ‹_›) | exact HBr.out))))) : P := h
theorem ug {P : Prop} (h : P := by repeat (first | (with_reducible first | exact HB.out | apply below_alloc | apply pw_below_drewN | apply below_drew1 | refine below_set ?_ GE115.out | refine below_set ?_ GE120.out) | exact HB.out)) : P := h
theorem uh {P : Prop} (h : P := by repeat (first | (with_reducible first | exact HB.out | apply below_alloc | apply pw_below_drewN | apply below_drew1 | refine below_set ?_ GE108.out | refine below_set ?_ GE109.out) | exact HB.out)) : P := h
theorem ui {P : Prop} (h : P := by repeat (first | (with_reducible first | exact HB.out | apply below_alloc | apply pw_below_drewN | apply below_drew1 | refine below_set ?_ GE115.out) | exact HB.out)) : P := h
theorem uj {P : Prop} (h : P := by first | exact Kd.S_nil _ _ _ _ _ | exact Kd.N_nil _ _ _ _ _ | exact Kd.V_nil _ _ _ _ _ | exact Kd.Q_nil _ _ _ _ _ | exact Kd.R_nil _ _ _ _ _) : P := h
theorem uk {P : Prop} (h : P := by (try simp only [List.map_toArray, List.map_cons, List.map_nil]); first | done | rfl | (simp only [List.length_drop, List.length_take]; rfl)) : P := h
theorem ul {P : Prop} (h : P := by repeat (first | (with_reducible first | exact HB.out | apply below_alloc | apply pw_below_drewN | apply below_drew1) | exact HB.out)) : P := h
theorem um {P : Prop} (h : P := by repeat (first | (with_reducible first | exact HB.out | apply lA | apply lN | apply lD | refine lT ?_ ‹_›) | exact HB.out)) : P := h
theorem un {P : Prop} (h : P := by (try simp only [List.map_toArray, List.map_cons, List.map_nil]); first | done | rfl | (go_simp; done) | (go_simp; rfl)) : P := h
theorem uo {P : Prop} (h : P := by (with_reducible repeat (first | apply Kd.N_alloc | apply Kd.N_drewN | apply Kd.N_drew)); exact HO114.out) : P := h
theorem uq {P : Prop} (h : P := by (with_reducible repeat (first | apply Kd.N_alloc | apply Kd.N_drewN | apply Kd.N_drew)); exact HO118.out) : P := h
theorem ur {P : Prop} (h : P := by (with_reducible repeat (first | apply Kd.N_alloc | apply Kd.N_drewN | apply Kd.N_drew)); exact HO123.out) : P := h
theorem us {P : Prop} (h : P := by (with_reducible repeat (first | apply Kd.R_alloc | apply Kd.R_drewN | apply Kd.R_drew)); exact HO128.out) : P := h
theorem ut {P : Prop} (h : P := by (with_reducible repeat (first | apply Kd.N_alloc | apply Kd.N_drewN | apply Kd.N_drew)); exact HO131.out) : P := h
theorem uu {P : Prop} (h : P := by (with_reducible repeat (first | apply Kd.R_alloc | apply Kd.R_drewN | apply Kd.R_drew)); exact HO136.out) : P := h
theorem uv {P : Prop} (h : P := by (with_reducible repeat (first | apply Kd.N_alloc | apply Kd.N_drewN | apply Kd.N_drew)); exact HO139.out) : P := h
theorem uw {P : Prop} (h : P := by (with_reducible repeat (first | apply Kd.N_alloc | apply Kd.N_drewN | apply Kd.N_drew)); exact HO144.out) : P := h
theorem ux {P : Prop} (h : P := by (with_reducible repeat (first | apply Kd.R_alloc | apply Kd.R_drewN | apply Kd.R_drew)); exact HO152.out) : P := h
theorem uy {P : Prop} (h : P := by (with_reducible repeat (first | apply Kd.N_alloc | apply Kd.N_drewN | apply Kd.N_drew)); exact HO161.out) : P := h
theorem uz {P : Prop} (h : P := by repeat (first | (with_reducible first | exact HB.out | apply lA | apply lN | apply lD) | exact HB.out)) : P := h
theorem uA {P : Prop} (h : P := by refine bB ?_; refine blk_put (cs := #[.slice none 0 0]) ?_ 0 _ rfl; refine bB ?_; exact BK115.out) : P := h
theorem uB {P : Prop} (h : P := by refine bB ?_; refine blk_put (cs := #[.slice none 0 0]) ?_ 0 _ rfl; refine bB ?_; exact BK103.out) : P := h
theorem uC {P : Prop} (h : P := by refine bB ?_; refine blk_put (cs := #[.slice none 0 0]) ?_ 0 _ rfl; refine bB ?_; exact BK128.out) : P := h
theorem uD {P : Prop} (h : P := by first | rfl | (simp [errW_none, errW_some] <;> rfl) | (simp [*, errW_none, errW_some] <;> rfl)) : P := h
theorem uE {P : Prop} (h : P := by have := World.block_lt_of_cell? _ _ hw107_0; first | rwa [add_block] at this | exact this) : P := h
theorem uF {P : Prop} (h : P := by have hq := hc 0 _ rfl; rwa [Nat.mul_one, Nat.add_zero] at hq) : P := h
theorem uG {P : Prop} (h : P := by repeat (first | exact Drawn0.refl _ | apply Drawn0.step)) : P := h
theorem uH {P : Prop} (h : P := by first | (with_reducible assumption) | assumption) : P := h
theorem uI {P : Prop} (h : P := by first | rfl | (simp; done) | (simp [*]; done)) : P := h
theorem uJ {P : Prop} (h : P := by first | (go_simp; done) | (go_simp; rfl)) : P := h
theorem uK {P : Prop} (h : P := by first | omega | exact Nat.le_refl _) : P := h
theorem uL {P : Prop} (h : P := by rw [fmat_length]; omega) : P := h
theorem uM {P : Prop} (h : P := by have := HK1.out; omega) : P := h
theorem uN {P : Prop} (h : P := by kernel_rfl) : P := h
theorem uO {P : Prop} (h : P := by decide) : P := h
theorem uP {P : Prop} (h : P := by omega) : P := h
theorem uQ {P : Prop} (h : P := by simp) : P := h
theorem uR {P : Prop} (h : P := by rfl) : P := h
theorem uS {P : Prop} (h : P := by (with_reducible repeat (first | apply bN | apply bD | apply bA)); first | exact BK8.out | (refine blk_far BK8.out ?_ _; assumption) | (refine blk_put (cs := #[.slice none 0 0]) BK8.out 0 _ rfl)) : P := h
theorem uT {P : Prop} (h : P := by repeat (first | (with_reducible first | exact HBr.out | apply lA | apply lN | apply lD | refine lT ?_ ‹_›) | exact HBr.out)) : P := h
end Go.Proofs.Ytaahnicjjpddjaa
