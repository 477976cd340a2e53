/- Tactic blocks that come often, one lemma each. No condition. Functions of the program as Lean functions, each with a proof that its call comes to what the function says. No condition. -/
import Derived.Test.YtaahnicjjpddjaaKDecodesSh
section
namespace Go.Proofs.Ytaahnicjjpddjaa
open Go.RowKit Go.Proofs.YtaahnicjjpddjaaW.PrintWords Go.Proofs.YtaahnicjjpddjaaW.PrintLast Go.Proofs.YtaahnicjjpddjaaW.PrintMore
theorem u0 {P : Prop} (h : P := by (with_reducible repeat (first | apply sA | apply sN | apply sD)); exact (Kd.S_mono (Kd.S_far (p := ⟨gb120, 0, none⟩) (Kd.S_types HO_115000.out BK120.out (by decide)) (fun _ hk => hk.2) (.slice Ao47 t116.length co47)) (fun _ h_ => h_.1))) : P := h
theorem u7 {P : Prop} (h : P := by (with_reducible repeat (first | apply sA | apply sN | apply sD)); exact (Kd.S_mono (Kd.S_far (p := ⟨gb115, 0, none⟩) (Kd.S_types HO_111000.out BK115.out (by decide)) (fun _ hk => hk.2) (.slice Ao50 t111.length co50)) (fun _ h_ => h_.1))) : P := h
theorem ua {P : Prop} (h : P := by (with_reducible repeat (first | apply sA | apply sN | apply sD)); exact (Kd.S_mono (Kd.S_far (p := ⟨gb120, 0, none⟩) (Kd.S_types HO118.out BK120.out (by decide)) (fun _ hk => hk.2) (.slice Ao47 t116.length co47)) (fun _ h_ => h_.1))) : P := h
theorem ub {P : Prop} (h : P := by (with_reducible repeat (first | apply sA | apply sN | apply sD)); exact (Kd.S_mono (Kd.S_far (p := ⟨gb153, 0, none⟩) (Kd.S_types HO151.out BK153.out (by decide)) (fun _ hk => hk.2) (.slice Ao62 t149.length co62)) (fun _ h_ => h_.1))) : P := h
theorem uc {P : Prop} (h : P := by (with_reducible repeat (first | apply sA | apply sN | apply sD)); exact (Kd.S_mono (Kd.S_far (p := ⟨gb142, 0, none⟩) (Kd.S_types HO140.out BK142.out (by decide)) (fun _ hk => hk.2) (.slice Ao52 t138.length co52)) (fun _ h_ => h_.1))) : P := h
theorem ud {P : Prop} (h : P := by (with_reducible repeat (first | apply sA | apply sN | apply sD)); exact (Kd.S_mono (Kd.S_far (p := ⟨gb115, 0, none⟩) (Kd.S_types HO113.out BK115.out (by decide)) (fun _ hk => hk.2) (.slice Ao50 t111.length co50)) (fun _ h_ => h_.1))) : P := h
theorem ue {P : Prop} (h : P := by (with_reducible repeat (first | apply bN | apply bD | apply bA)); refine blk_put (cs := #[.slice none 0 0]) ?_ 0 _ rfl; (with_reducible repeat (first | apply bN | apply bD | apply bA)); exact BK128.out) : P := h
theorem uf {P : Prop} (h : P := by (with_reducible repeat (first | apply bN | apply bD | apply bA)); refine blk_put (cs := #[.slice none 0 0]) ?_ 0 _ rfl; (with_reducible repeat (first | apply bN | apply bD | apply bA)); exact BK115.out) : P := h
theorem ug {P : Prop} (h : P := by (with_reducible repeat (first | apply bN | apply bD | apply bA)); refine blk_put (cs := #[.slice none 0 0]) ?_ 0 _ rfl; (with_reducible repeat (first | apply bN | apply bD | apply bA)); exact BK159.out) : P := h
theorem uh {P : Prop} (h : P := by (with_reducible repeat (first | apply bN | apply bD | apply bA)); refine blk_put (cs := #[.slice none 0 0]) ?_ 0 _ rfl; (with_reducible repeat (first | apply bN | apply bD | apply bA)); exact BK2.out) : P := h
theorem ui {P : Prop} (h : P := by repeat (first | (with_reducible first | exact HB.out | apply below_alloc | apply pw_below_drewN | apply below_drew1 | refine below_set ?_ GE108.out | refine below_set ?_ GE109.out) | exact HB.out)) : P := h
theorem uj {P : Prop} (h : P := by repeat (first | (with_reducible exact HR159_0.out) | (with_reducible refine Kd.C_alloc ?_ _) | (with_reducible refine Kd.C_drewN ?_ _) | (with_reducible refine Kd.C_drew ?_) | exact HR159_0.out)) : P := h
theorem uk {P : Prop} (h : P := by repeat (first | (with_reducible exact HR148_0.out) | (with_reducible refine Kd.C_alloc ?_ _) | (with_reducible refine Kd.C_drewN ?_ _) | (with_reducible refine Kd.C_drew ?_) | exact HR148_0.out)) : P := h
theorem ul {P : Prop} (h : P := by repeat (first | (with_reducible first | exact HB.out | apply below_alloc | apply pw_below_drewN | apply below_drew1 | refine below_set ?_ GEX.out | refine below_set ?_ GER.out) | exact HB.out)) : P := h
theorem um {P : Prop} (h : P := by repeat (first | (with_reducible exact HR148.out) | (with_reducible refine Kd.C_alloc ?_ _) | (with_reducible refine Kd.C_drewN ?_ _) | (with_reducible refine Kd.C_drew ?_) | exact HR148.out)) : P := h
theorem un {P : Prop} (h : P := by repeat (first | (with_reducible exact HR163.out) | (with_reducible refine Kd.C_alloc ?_ _) | (with_reducible refine Kd.C_drewN ?_ _) | (with_reducible refine Kd.C_drew ?_) | exact HR163.out)) : P := h
theorem uo {P : Prop} (h : P := by repeat (first | (with_reducible exact HR137.out) | (with_reducible refine Kd.C_alloc ?_ _) | (with_reducible refine Kd.C_drewN ?_ _) | (with_reducible refine Kd.C_drew ?_) | exact HR137.out)) : P := h
theorem uq {P : Prop} (h : P := by (with_reducible repeat (first | apply bN | apply bD | apply bA)); refine blk_far ?_ NB123_128.out _; (with_reducible repeat (first | apply bN | apply bD | apply bA)); exact BK123.out) : P := h
theorem ur {P : Prop} (h : P := by rw [← hq_]; exact (by repeat (first | (with_reducible first | exact HB.out | apply lA | apply lN | apply lD | refine lT ?_ ‹_›) | exact HB.out))) : P := h
theorem us {P : Prop} (h : P := by first | exact Kd.S_nil _ _ _ _ _ | exact Kd.N_nil _ _ _ _ _ | exact Kd.V_nil _ _ _ _ _ | exact Kd.Q_nil _ _ _ _ _ | exact Kd.R_nil _ _ _ _ _) : P := h
theorem ut {P : Prop} (h : P := by first | exact Kd.R_nil _ _ _ _ _ | exact Kd.N_nil _ _ _ _ _ | exact Kd.V_nil _ _ _ _ _ | exact Kd.Q_nil _ _ _ _ _ | exact Kd.S_nil _ _ _ _ _) : P := h
theorem uu {P : Prop} (h : P := by (try simp only [List.map_toArray, List.map_cons, List.map_nil]); first | done | rfl | (simp only [List.length_drop, List.length_take]; rfl)) : P := h
theorem uv {P : Prop} (h : P := by repeat (first | (with_reducible first | exact HB.out | apply below_alloc | apply pw_below_drewN | apply below_drew1) | exact HB.out)) : P := h
theorem uw {P : Prop} (h : P := by repeat (first | (with_reducible first | exact HK.out | apply Kept.alloc | apply Kept.drewN | apply Kept.drew) | exact HK.out)) : P := h
theorem ux {P : Prop} (h : P := by (with_reducible repeat (first | apply sA | apply sN | apply sD)); exact Kd.S_mono HO_129000.out (fun _ hk => ⟨hk.2, hk.1⟩)) : P := h
theorem uy {P : Prop} (h : P := by (with_reducible repeat (first | apply rA | apply rN | apply rD)); exact Kd.R_mono HO_10.out (fun _ hk => hk.2)) : P := h
theorem uz {P : Prop} (h : P := by (with_reducible repeat (first | apply rA | apply rN | apply rD)); exact Kd.R_mono HO133.out (fun _ hk => hk.2)) : P := h
theorem uA {P : Prop} (h : P := by (with_reducible repeat (first | apply rA | apply rN | apply rD)); exact Kd.R_mono HO140.out (fun _ hk => hk.2)) : P := h
theorem uB {P : Prop} (h : P := by (with_reducible repeat (first | apply rA | apply rN | apply rD)); exact Kd.R_mono HO_11.out (fun _ hk => hk.2)) : P := h
theorem uC {P : Prop} (h : P := by repeat (first | (with_reducible first | exact HB.out | apply lA | apply lN | apply lD) | exact HB.out)) : P := h
theorem uD {P : Prop} (h : P := by simp only [putAll, Act.put, List.setIfInBounds_toArray, List.set_cons_zero, List.set_cons_succ]) : P := h
theorem uE {P : Prop} (h : P := by first | rfl | (simp [errW_none, errW_some] <;> rfl) | (simp [*, errW_none, errW_some] <;> rfl)) : P := h
theorem uF {P : Prop} (h : P := by have := World.block_lt_of_cell? _ _ hw107_0; first | rwa [add_block] at this | exact this) : P := h
theorem uG {P : Prop} (h : P := by have := World.block_lt_of_cell? _ _ hw141_0; first | rwa [add_block] at this | exact this) : P := h
theorem uH {P : Prop} (h : P := by have := HJ2.out; have := HK2.out; have := HK3.out; have := HK4.out; omega) : P := h
theorem uI {P : Prop} (h : P := by have hq := hc 0 _ rfl; rwa [Nat.mul_one, Nat.add_zero] at hq) : P := h
theorem uJ {P : Prop} (h : P := by repeat (first | exact Drawn0.refl _ | apply Drawn0.step)) : P := h
theorem uK {P : Prop} (h : P := by have := HJ2.out; have := HK2.out; have := HK3.out; omega) : P := h
theorem uL {P : Prop} (h : P := by first | (with_reducible assumption) | assumption) : P := h
theorem uM {P : Prop} (h : P := by first | rfl | (simp; done) | (simp [*]; done)) : P := h
theorem uN {P : Prop} (h : P := by rw [hg]; exact Nat.ne_of_lt (blk_lt BK1.out)) : P := h
theorem uO {P : Prop} (h : P := by have := HJ2.out; have := HK2.out; omega) : P := h
theorem uP {P : Prop} (h : P := by have := HK1.out; have := HK2.out; omega) : P := h
theorem uQ {P : Prop} (h : P := by first | omega | exact Nat.le_refl _) : P := h
theorem uR {P : Prop} (h : P := by rw [fmat_length]; omega) : P := h
theorem uS {P : Prop} (h : P := by have := HK1.out; omega) : P := h
theorem uT {P : Prop} (h : P := by rw [own_length]; omega) : P := h
theorem uU {P : Prop} (h : P := by decide +kernel) : P := h
theorem uV {P : Prop} (h : P := by simp; omega) : P := h
theorem uW {P : Prop} (h : P := by kernel_rfl) : P := h
theorem uX {P : Prop} (h : P := by go_num) : P := h
theorem uY {P : Prop} (h : P := by omega) : P := h
theorem uZ {P : Prop} (h : P := by rfl) : P := h
theorem q7 {P : Prop} (h : P := by repeat (first | (with_reducible first | exact HB.out | apply lA | apply lN | apply lD | refine lT ?_ ‹_›) | exact HB.out)) : P := h
theorem q9 {P : Prop} (h : P := by (try simp only [List.map_toArray, List.map_cons, List.map_nil]); first | done | rfl) : P := h
theorem qa {P : Prop} (h : P := by decide) : P := h
theorem qb {P : Prop} (h : P := by simp) : P := h
end Go.Proofs.Ytaahnicjjpddjaa
end
section
namespace Go.Proofs.Ytaahnicjjpddjaa.GGf
open Go.RowKit Go.Proofs.YtaahnicjjpddjaaW.PrintWords Go.Proofs.YtaahnicjjpddjaaW.PrintLast
set_option linter.unusedVariables false
set_option linter.unusedSimpArgs false



def errW : Option Int → Value
 | none => .nilIface
 | some c => .iface 0 (.int .i64 c)
theorem errW_none : errW none = .nilIface := rfl
theorem errW_some (c : Int) : errW (some c) = .iface 0 (.int .i64 c) := rfl

-- the values' own types

end Go.Proofs.Ytaahnicjjpddjaa.GGf
end
