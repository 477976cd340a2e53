/- Shapes, shards that are none, and too few: what the call of the law comes to, at every number. -/
import Derived.Test.YtaahnicjjpddjaaRebFormsW
import Derived.Test.YtaahnicjjpddjaaWordLaw
namespace Go.Proofs.Ytaahnicjjpddjaa.RebW
open Go.RowKit Go.Proofs.Ytaahnicjjpddjaa.GRebuildAll Go.Proofs.YtaahnicjjpddjaaW.PrintWords Go.Proofs.YtaahnicjjpddjaaW.PrintLast Go.Proofs.YtaahnicjjpddjaaW.PrintMore Go.Proofs.Ytaahnicjjpddjaa.Fld Go.Proofs.Ytaahnicjjpddjaa.Mat Go.Proofs.Ytaahnicjjpddjaa.Fn Go.Proofs.Ytaahnicjjpddjaa.Pr Go.Proofs.Ytaahnicjjpddjaa.Enc
open Go.Proofs.Ytaahnicjjpddjaa.GvcVec (alikeB)

theorem awake8_f {k : Nat} (hk : 61000 < k) : ossuarylaw8_awake.f k = some true := by
  unfold ossuarylaw8_awake.f
  have e1 : GEnc.rebuild_Rebuild.f k 2 1 [⟨#[97]⟩, ⟨#[]⟩, ⟨#[103]⟩] [true, false, true] = some ([⟨#[97]⟩, ⟨#[98]⟩, ⟨#[103]⟩], 0) := by
    have h := reb_word hk (d := 2) (p := 1) (by omega) (by omega) (by omega) (data := [⟨#[97]⟩, ⟨#[98]⟩]) (shards := [⟨#[97]⟩, ⟨#[]⟩, ⟨#[103]⟩]) (hv := [true, false, true]) rfl (by decide +kernel) rfl rfl (by decide) (by decide +kernel) (fun t ht => by
      unfold word
      rw [par21]
      rcases (show t = 0 ∨ t = 1 by omega) with rfl | rfl <;> rfl)
    unfold word at h
    rw [par21] at h
    exact h
  have e2 : GEnc.rebuild_Rebuild.f k 2 1 [⟨#[97]⟩, ⟨#[]⟩, ⟨#[]⟩] [true, false, false] = some ([], 801) :=
    reb_few hk (d := 2) (p := 1) (by omega) (by omega) (by omega) rfl rfl (by decide) (by decide +kernel)
  have e3 : GEnc.rebuild_Rebuild.f k 2 1 [] [] = some ([], 800) := reb_no hk 2 1 [] [] (by simp)
  rw [e1, e2, e3]
  simp only [Option.bind_some, num_f]
  rw [same_self _ (by decide) (by simp; omega)]
  rfl


theorem calls (a0 a1 : Int) (r : Bool) (w : World) (h : r = true) : Calls Try.prog 25 #[.int .i64 a0, .int .i64 a1] w fun e w' => e = .returned (.bool r) ∧ Below w.heap.size w w' := by
  subst h
  have hk : 61000 < 61001 := by decide
  have e2 : GEnc.rebuild_Rebuild.f 61001 2 1 [⟨#[97]⟩, ⟨#[98]⟩, ⟨#[99]⟩] [false, true, false] = some ([], 801) :=
    reb_few hk (d := 2) (p := 1) (by omega) (by omega) (by omega) rfl rfl (by decide) (by decide +kernel)
  obtain ⟨b, hb⟩ : ∃ b, Go.bits .and .i64 a1 1023 = b := ⟨_, rfl⟩
  have hb0 : 0 ≤ b ∧ b < 1024 := by rw [← hb, and_1023]; omega
  have hb1 : wrap64 (1 + b) = 1 + b := wrap64_in (by omega) (by omega)
  have hb2 : wrap64 (-(1 + b)) = -(1 + b) := wrap64_in (by omega) (by omega)
  obtain ⟨r, hr, e⟩ := mod_u a0 3 (by omega) (by omega)
  rw [show ((3 : Nat) : Int) = 3 from rfl] at e
  obtain rfl | rfl | rfl : r = 0 ∨ r = 1 ∨ r = 2 := by omega
  · exact walk0 61001 a0 a1 b w (awake8_f hk) hb e hb1 hb2 (reb_no hk _ _ _ _ (by omega)) e2
  · exact walk1 61001 a0 a1 b w (awake8_f hk) hb e hb1 hb2 (reb_no hk _ _ _ _ (by simp)) e2
  · exact walk2 61001 a0 a1 b w (awake8_f hk) hb e hb1 hb2 (reb_bad hk (d := 2) (p := 1) (by omega) (by omega) (by omega) rfl rfl (by decide +kernel)) e2
end Go.Proofs.Ytaahnicjjpddjaa.RebW
