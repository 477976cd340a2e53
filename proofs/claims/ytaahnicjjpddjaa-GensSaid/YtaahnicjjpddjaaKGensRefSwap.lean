/- The reference's exchange of rows: the call's walk, by hand; its row operations over a pair of matrices. No condition. -/
import Derived.Test.YtaahnicjjpddjaaKGensRefRow
import Derived.RegionTactic
import Derived.BigRegion
namespace Go.Proofs.Ytaahnicjjpddjaa.Pr
open Go.RowKit Go.Proofs.YtaahnicjjpddjaaW.PrintWords Go.Proofs.YtaahnicjjpddjaaW.PrintLast Go.Proofs.YtaahnicjjpddjaaW.PrintMore Go.Proofs.Ytaahnicjjpddjaa.Fld Go.Proofs.Ytaahnicjjpddjaa.Mat Go.Proofs.Ytaahnicjjpddjaa.GRef

def SwapEnd (W0 : World) (n : Nat) (gs Cs : Nat → Nat) (hs : Nat → Nat → Nat × Nat) (v : Nat → Nat → Nat → F) (w : World) (e : Ending) (w' : World) : Prop :=
  e = .returned (.tuple #[]) ∧ Two w' n gs Cs hs v ∧ Below W0.heap.size W0 w' ∧ Keep24 w w'
set_option maxHeartbeats 2000000 in
set_option maxRecDepth 100000 in
theorem swap_calls (W0 : World) (n : Nat) (gs Cs : Nat → Nat) (hs : Nat → Nat → Nat × Nat) (v : Nat → Nat → Nat → F) (t a i : Nat) (w : World)
    (ht : t < 2) (ha : a < n) (hi : i < n) (hT : Two w n gs Cs hs v) (hB : Below W0.heap.size W0 w) (hnew : W0.heap.size ≤ gs t) :
    Calls Try.prog 82 #[.agg #[.slice (some ⟨gs t, 0, none⟩) n (Cs t)], .int .i64 a, .int .i64 i] w (SwapEnd W0 n gs Cs (swap1 hs t a i) (swap1 v t a i) w) := by
  have hu24 := Try.underlying24
  have HT := Aside0.mk hT
  have HB := Aside0.mk hB
  have HK := Aside0.mk (Keep24.refl w)
  have GEO := Aside0.mk hnew
  have HW := Aside0.mk hB.size
  clear hT hB hnew
  have q1 : decide ((a : Int) < (n : Int)) = true := decide_eq_true (by omega)
  have q2 : decide ((i : Int) < (n : Int)) = true := decide_eq_true (by omega)
  go_enter Try.func82, Try.ntmps82
  go_wp2_with (first
    | ((with_reducible refine gate_dst (N := 3) rfl ?_); refine box_event ?hg (N := 3) ?hd (cs := #[.slice (some ⟨gs t, 0, none⟩) n (Cs t)]) (t := 24) ?hr ?_; (case hd => rfl); (case hg => rfl); (case hr => first | (go_simp; done) | (go_simp; rfl)); intro gx hg w1 hbox hb;
       have n0_ := Aside0.mk (below_step HB.out hb); have n1_ := Aside0.mk hbox; have n2_ := Aside0.mk (show w.heap.size ≤ gx by rw [hg]; exact Nat.le_refl _); have n3_ := Aside0.mk (HT.out.below hb); have n4_ := Aside0.mk (HK.out.below hb);
       have n5_ := Aside0.mk (show (∀ t, t < 2 → gs t ≠ gx) from fun t' ht' => by have := HT.out.lt_out ht'; omega);
       clear HB HT HK; have HB := n0_; have BKX := n1_; have GEX := n2_; have HT := n3_; have HK := n4_; have NX := n5_; clear n0_ n1_ n2_ n3_ n4_ n5_ hb hbox hg;
       have xb : w1.cell? ⟨gx, 0, none⟩ = some (.slice (some ⟨gs t, 0, none⟩) n (Cs t)) := (blk_cell BKX.out 0).trans rfl;
       have hne1 := NX.out t ht; have hne2 := (NX.out t ht).symm;
       have y1 : w1.cell? ⟨gs t, a, none⟩ = some (.slice (some ⟨(hs t a).1, 0, none⟩) n (hs t a).2) := (HT.out.out t ht).cell ha;
       have y2 : w1.cell? ⟨gs t, i, none⟩ = some (.slice (some ⟨(hs t i).1, 0, none⟩) n (hs t i).2) := (HT.out.out t ht).cell hi;
       have y3 : w1.frozen? ⟨gs t, a, none⟩ = false := (HT.out.out t ht).frozen a;
       have y4 : w1.frozen? ⟨gs t, i, none⟩ = false := (HT.out.out t ht).frozen i;
       have HO1 := (HT.out.out t ht).put a (hs t i);
       have z1 : (w1.setCell ⟨gs t, a, none⟩ (.slice (some ⟨(hs t i).1, 0, none⟩) n (hs t i).2)).cell? ⟨gs t, i, none⟩ = some (.slice (some ⟨(hs t i).1, 0, none⟩) n (hs t i).2) := (by refine (HO1.cell hi).trans ?_; simp only [ite_self]; rfl);
       have z2 : (w1.setCell ⟨gs t, a, none⟩ (.slice (some ⟨(hs t i).1, 0, none⟩) n (hs t i).2)).frozen? ⟨gs t, i, none⟩ = false := HO1.frozen i;
       clear HO1))
  go_region
  all_goals (go_wp2; go_end0)
  all_goals (exact ⟨rfl, by (with_reducible repeat (first | refine Two.drewN ?_ _ | refine Two.drew ?_)); exact HT.out.swap ht ha hi, by repeat (first | (with_reducible first | exact HB.out | apply below_alloc | apply pw_below_drewN | apply below_drew1 | refine below_set ?_ GEO.out) | exact HB.out), by (with_reducible repeat (first | refine Keep24.drewN ?_ _ | refine Keep24.drew ?_)); refine Keep24.out2 ?_ (HT.out.out t ht).blk; exact HK.out⟩)
end Go.Proofs.Ytaahnicjjpddjaa.Pr
