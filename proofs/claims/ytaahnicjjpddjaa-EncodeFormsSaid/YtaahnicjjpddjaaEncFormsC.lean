/- Shapes, data that encoding refuses: what the call of the law comes to, at every number. -/
import Derived.Test.YtaahnicjjpddjaaEncFormsW
import Derived.Test.YtaahnicjjpddjaaWordLaw
namespace Go.Proofs.Ytaahnicjjpddjaa.EncF
open Go.RowKit Go.Proofs.YtaahnicjjpddjaaW.PrintWords Go.Proofs.YtaahnicjjpddjaaW.PrintLast Go.Proofs.YtaahnicjjpddjaaW.PrintMore Go.Proofs.Ytaahnicjjpddjaa.Fld Go.Proofs.Ytaahnicjjpddjaa.Mat Go.Proofs.Ytaahnicjjpddjaa.Fn Go.Proofs.Ytaahnicjjpddjaa.Pr Go.Proofs.Ytaahnicjjpddjaa.Enc
open Go.Proofs.Ytaahnicjjpddjaa.GvcVec (alikeB)

theorem awake6_f {k : Nat} (hk : 61000 < k) : AwE.AwE k := by
  have e1 : GEnc.encode_Encode.f k 2 1 [⟨#[97]⟩, ⟨#[98]⟩] = some ([⟨#[103]⟩], 0) := by
    have h := enc_f hk 2 1 (by omega) (by omega) (by omega) [⟨#[97]⟩, ⟨#[98]⟩] rfl (by decide +kernel)
    rw [par21] at h
    exact h
  have e2 : GEnc.encode_Encode.f k 2 1 [⟨#[97]⟩] = some ([], 600) := enc_no hk 2 1 _ (by simp; omega) (by simp)
  have e3 : GEnc.encode_Encode.f k 2 1 [⟨#[97]⟩, ⟨#[98, 99]⟩] = some ([], 600) := enc_no hk 2 1 _ (by simp; omega) (fun h => absurd h.2.2 (by decide +kernel))
  have e4 : GEnc.encode_Encode.f k 1 0 [⟨#[]⟩] = some ([], 0) := enc_f hk 1 0 (by omega) (by omega) (by omega) [⟨#[]⟩] rfl (by decide +kernel)
  exact ⟨e1, e2, e3, e4, same_self _ (by decide) (by simp; omega)⟩
theorem long_size (n : Nat) : (strOfNums (List.replicate n 0)).size = n := by
  have e : List.replicate n (0 : Int) = (GvcVec.zerosF n).map toI := GvcVec.zeros_map n
  rw [e]
  show (GvcVec.strF (GvcVec.zerosF n)).size = n
  rw [GvcVec.strF_size]
  unfold GvcVec.zerosF
  simp
theorem calls (a0 a1 : Int) (r : Bool) (w : World) (h : r = true) : Calls Try.prog 17 #[.int .i64 a0, .int .i64 a1] w fun e w' => e = .returned (.bool r) ∧ Below w.heap.size w w' := by
  subst h
  have hk : 61000 < 61001 := by decide
  obtain ⟨b, hb⟩ : ∃ b, Go.bits .and .i64 a1 1023 = b := ⟨_, rfl⟩
  have hb0 : 0 ≤ b ∧ b < 1024 := by rw [← hb, and_1023]; omega
  obtain ⟨c, hc⟩ : ∃ c, 1 + b = c := ⟨_, rfl⟩
  obtain ⟨n, hn⟩ : ∃ n : Int, 4096 + c = n := ⟨_, rfl⟩
  obtain ⟨m, hm⟩ : ∃ m : Int, 4 + c = m := ⟨_, rfl⟩
  have hb1 : wrap64 (1 + b) = c := by rw [wrap64_in (by omega) (by omega)]; exact hc
  have hb2 : wrap64 (4096 + c) = n := by rw [wrap64_in (by omega) (by omega)]; exact hn
  have hb3 : wrap64 (4 + c) = m := by rw [wrap64_in (by omega) (by omega)]; exact hm
  have hn0 : 0 ≤ n := by omega
  have hn1 : n ≤ 10000 := by omega
  have hm0 : 0 ≤ m := by omega
  have hm1 : m ≤ 10000 := by omega
  have hn2 : 4096 < n.toNat := by omega
  have hm2 : ¬ m ≤ 4 := by omega
  obtain ⟨L, hL⟩ : ∃ L, strOfNums (List.replicate n.toNat 0) = L := ⟨_, rfl⟩
  have hLs : 4096 < L.size := by rw [← hL, long_size]; exact hn2
  have ha6 := awake6_f hk
  have e0 : GEnc.encode_Encode.f 61001 0 0 ([] : List ByteArray) = some ([], 600) := enc_no hk 0 0 _ (by simp) (by omega)
  have e1 : GEnc.encode_Encode.f 61001 2 3 [⟨#[97]⟩, ⟨#[98]⟩] = some ([], 600) := enc_no hk 2 3 _ (by simp) (by omega)
  have e2 : GEnc.encode_Encode.f 61001 2 1 [⟨#[97]⟩] = some ([], 600) := enc_no hk 2 1 _ (by simp) (by simp)
  have e3 : GEnc.encode_Encode.f 61001 2 1 [⟨#[97]⟩, ⟨#[]⟩] = some ([], 600) := enc_no hk 2 1 _ (by simp) (fun h => absurd h.2.2 (by decide +kernel))
  have e4 : GEnc.encode_Encode.f 61001 1 1 [L] = some ([], 600) := enc_no hk 1 1 _ (by simp) (fun h => by
    have h2 := (GvcVec.alikeB_size h.2.2 L (List.mem_cons_self)).2
    omega)
  have e5 : GEnc.encode_Encode.f 61001 m 0 (List.replicate m.toNat ByteArray.empty) = some ([], 600) := enc_no hk m 0 _ (by simp; omega) (fun h => hm2 h.1.2.1)
  obtain ⟨r, hr, e⟩ := mod_u a0 6 (by omega) (by omega)
  rw [show ((6 : Nat) : Int) = 6 from rfl] at e
  clear hn hm hc hn2 hLs hb0 hm2
  exact walk 61001 (r : Int) a0 a1 b c n m L w ha6 hb e (by omega) hb1 hb2 hb3 hn0 hn1 hm0 hm1 hL e0 e1 e2 e3 e4 e5
end Go.Proofs.Ytaahnicjjpddjaa.EncF
