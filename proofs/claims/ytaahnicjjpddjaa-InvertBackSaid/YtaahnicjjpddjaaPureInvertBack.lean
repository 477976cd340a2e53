/- An inverse from either side leads to the identity, and its own is the matrix: at every input. -/
import Derived.Test.YtaahnicjjpddjaaGInvertBack2
import Derived.Test.YtaahnicjjpddjaaInvTwo
namespace Go.Proofs.Ytaahnicjjpddjaa.Pure
open Go.RowKit Go.Proofs.Ytaahnicjjpddjaa.GInvertBack Go.Proofs.YtaahnicjjpddjaaW.PrintWords Go.Proofs.YtaahnicjjpddjaaW.PrintLast Go.Proofs.YtaahnicjjpddjaaW.PrintMore Go.Proofs.Ytaahnicjjpddjaa.Fld Go.Proofs.Ytaahnicjjpddjaa.Mat Go.Proofs.Ytaahnicjjpddjaa.Fn Go.Proofs.Ytaahnicjjpddjaa.Pr

theorem awake4_f {k : Nat} (hk : 200 < k) : ossuarylaw4_awake.f k = some true := by
  unfold ossuarylaw4_awake.f
  have e1 : inv.f [[0, 1], [2, 0]] = some ([[0, 142], [1, 0]], 0) := inv_lit _ _ 2 (by omega) (by omega) (by decide +kernel) (by decide +kernel) (by decide +kernel)
  have e2 : inv.f [[1, 1], [1, 1]] = some ([], 401) := by
    have h := inv_none (A := ent [[1, 1], [1, 1]]) (n := 2) (by omega) (by omega) (sing_rows (i := 0) (l := 1) (by omega) (by omega) (by omega) (by decide +kernel))
    rw [show fmat (ent [[1, 1], [1, 1]]) 2 2 = [[1, 1], [1, 1]] by decide +kernel] at h
    exact h
  have e3 : inv.f [[1, 2]] = some ([], 400) := inv_form (by decide +kernel)
  rw [e1, e2, e3]
  simp only [Option.bind_some, num_f]
  rw [sameL hk _ (by decide) (by decide)]
  simp

theorem back {k : Nat} (hk : 200 < k) (m : List (List Int)) : ossuarylaw4_InvertBack.f k m = some true := by
  unfold ossuarylaw4_InvertBack.f
  rw [awake4_f hk]
  simp only [Option.bind_some, if_true, num_f]
  rcases inv_cases m with ⟨n, A, y, h1, h2, rfl, hy, hy', he⟩ | ⟨n, A, h1, h2, rfl, hz, he⟩ | he
  · rw [he, fmat_length, identity_f hk n h1 h2]
    simp only [Option.bind_some, if_true]
    rw [mul_f hk y A n n n h1 h2 h1 h2 h1 h2, mul_f hk A y n n n h1 h2 h1 h2 h1 h2, inv_ok h1 h2 hy']
    simp only [Option.bind_some, if_true, idM]
    rw [sameF hk _ _ n n h2 h2 hy, sameF hk _ _ n n h2 h2 hy', sameF hk A A n n h2 h2 (fun _ _ _ _ => rfl)]
    rfl
  · rw [he]; simp
  · rw [he]; simp

theorem InvertBack {G S : Prop} (m : List (List Int)) (_ : G) (_ : S) : ∃ k, ossuarylaw4_InvertBack.f k m = some true := ⟨300, back (by omega) m⟩
end Go.Proofs.Ytaahnicjjpddjaa.Pure
