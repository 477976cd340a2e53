/- A diagonal's inverse: what the call of the law comes to, at every slice of numbers. -/
import Derived.Test.YtaahnicjjpddjaaDiagW
namespace Go.Proofs.Ytaahnicjjpddjaa.Pr
open Go.RowKit Go.Proofs.YtaahnicjjpddjaaW.PrintWords Go.Proofs.YtaahnicjjpddjaaW.PrintLast Go.Proofs.YtaahnicjjpddjaaW.PrintMore Go.Proofs.Ytaahnicjjpddjaa.Fld Go.Proofs.Ytaahnicjjpddjaa.Mat Go.Proofs.Ytaahnicjjpddjaa.Fn

theorem awake4_d {k : Nat} (hk : 200 < k) : GInverts.ossuarylaw4_awake.f k = some true := by
  unfold GInverts.ossuarylaw4_awake.f
  have e1 : inv.f [[0, 1], [2, 0]] = some ([[0, 142], [1, 0]], 0) := inv_lit _ _ 2 (by omega) (by omega) (by decide +kernel) (by decide +kernel) (by decide +kernel)
  have e2 : inv.f [[1, 1], [1, 1]] = some ([], 401) := by
    have h := inv_none (A := ent [[1, 1], [1, 1]]) (n := 2) (by omega) (by omega) (sing_rows (i := 0) (l := 1) (by omega) (by omega) (by omega) (by decide +kernel))
    rw [show fmat (ent [[1, 1], [1, 1]]) 2 2 = [[1, 1], [1, 1]] by decide +kernel] at h
    exact h
  have e3 : inv.f [[1, 2]] = some ([], 400) := inv_form (by decide +kernel)
  rw [e1, e2, e3]
  simp only [Option.bind_some, num_f]
  rw [sameL hk _ (by decide) (by decide)]
  simp
theorem diag_inv (n : Nat) (f : Nat → F) (h : ∀ i, i < n → f i ≠ 0#8) : eqM n (mm n (diag (fun i => fi (f i))) (diag f)) delta := by
  intro i j hi hj
  have e : mm n (diag (fun i => fi (f i))) (diag f) i j = sumF n (fun k => fm (delta i k) (fm (fi (f i)) (diag f k j))) := sum_congr _ _ _ (fun k hk => by
    show fm (diag (fun i => fi (f i)) i k) (diag f k j) = _
    unfold diag delta
    by_cases h2 : k = i
    · rw [if_pos h2, if_pos h2.symm, one_fm]
    · rw [if_neg h2, if_neg (show ¬ i = k from fun e => h2 e.symm), zero_fm, zero_fm])
  rw [e, sum_delta n i (fun k => fm (fi (f i)) (diag f k j)) hi]
  unfold diag delta
  by_cases h2 : j = i
  · rw [if_pos h2, if_pos h2.symm, fi_fm _ (h i hi)]
  · rw [if_neg h2, if_neg (show ¬ i = j from fun e => h2 e.symm), fm_zero]
theorem sum_none (n : Nat) : sumF n (fun _ => (0#8 : F)) = 0#8 := by
  induction n with
  | zero => rfl
  | succ n ih => rw [sumF, ih]; rfl
theorem diag_sing (n : Nat) (f : Nat → F) (i : Nat) (hi : i < n) (h : f i = 0#8) (z : Nat → Nat → F) : ¬ eqM n (mm n z (diag f)) delta := by
  intro e
  have e1 := e i i hi hi
  have e2 : mm n z (diag f) i i = sumF n (fun _ => 0#8) := sum_congr _ _ _ (fun k _ => by
    show fm (z i k) (diag f k i) = _
    unfold diag
    by_cases h2 : i = k
    · rw [if_pos h2, ← h2, h, fm_zero]
    · rw [if_neg h2, fm_zero])
  have e3 := sum_none n
  rw [e2, e3, delta_self] at e1
  exact absurd e1 (by decide)
theorem diag_calls (A : Option Addr) (c : Nat) (l : List Int) (r : Bool) (w : World) (hr : Kd.C (Kd.int .i64) w A l.length l) (_ : l.length ≤ c) (h : r = true) : Calls Try.prog 9 #[.slice A l.length c] w fun e w' => e = .returned (.bool r) ∧ Below w.heap.size w w' := by
  subst h
  have h5 : GInverts.ossuarylaw4_awake.f 300 = some true := awake4_d (by omega)
  obtain ⟨n, hn⟩ : ∃ n, n = min l.length 12 := ⟨_, rfl⟩
  by_cases h1 : 1 ≤ n
  · have hI := identity_f (k := 300) (by omega) n h1 (by omega)
    have hC : GRef.ossuarylaw0_CopyMatrix.f 300 (idM n) = some (idM n) := by
      have h := copy_d (idM n) (by unfold idM; rw [fmat_length]; omega) (fun r hr => fmat_rows delta n n (by omega) r hr) n 300 0 (by unfold idM; rw [fmat_length]; omega) (by omega)
      rw [List.take_zero] at h
      exact h
    obtain ⟨f, hf⟩ : ∃ f : Nat → F, f = fun (i : Nat) => ofI ((rd l (i : Int)) % 256) := ⟨_, rfl⟩
    have hb : ∀ i : Nat, Go.bits .and .i64 (rd l (i : Int)) 255 = toI (f i) := fun i => by
      rw [hf, show (255 : Int) = 2 ^ 8 - 1 from rfl, and_mask 8 (by omega)]
      show _ % 256 = toI (ofI ((rd l (i : Int)) % 256))
      rw [toI_ofI (Int.emod_nonneg _ (by omega)) (Int.emod_lt_of_pos _ (by omega))]
    by_cases hz : ∃ i, i < n ∧ f i = 0#8
    · obtain ⟨i, hi, h0⟩ := hz
      have hv := inv_none h1 (show n ≤ 12 by omega) (diag_sing n f i hi h0)
      exact diag_walk 300 A c n l f true _ _ delta w hr hn h1 h5 hI hC hb (by unfold idM; exact fmat_length _ _ _) hv (.inl ⟨zeros_yes hi h0, rfl, rfl⟩)
    · have hz' : ∀ i, i < n → f i ≠ 0#8 := fun i hi h0 => hz ⟨i, hi, h0⟩
      have hv := inv_ok h1 (show n ≤ 12 by omega) (diag_inv n f hz')
      have hm := mul_f (k := 300) (by omega) (diag (fun i => fi (f i))) (diag f) n n n h1 (by omega) h1 (by omega) h1 (by omega)
      have he : fmat (mm n (diag (fun i => fi (f i))) (diag f)) n n = idM n := fmat_congr _ _ _ _ (diag_inv n f hz')
      rw [he] at hm
      have hs := sameF (k := 300) (by omega) delta delta n n (by omega) (by omega) (fun _ _ _ _ => rfl)
      exact diag_walk 300 A c n l f false _ _ (diag (fun i => fi (f i))) w hr hn h1 h5 hI hC hb (by unfold idM; exact fmat_length _ _ _) hv (.inr ⟨zeros_no hz', rfl, rfl, hm, hs, fun i j _ _ hne => if_neg (fun e => hne e.symm)⟩)
  · exact diag_none 300 A c n l w hr hn (by omega) h5
end Go.Proofs.Ytaahnicjjpddjaa.Pr
