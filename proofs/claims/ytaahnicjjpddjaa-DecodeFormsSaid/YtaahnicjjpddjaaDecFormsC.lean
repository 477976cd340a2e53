/- Shapes, shards that are none, and too few: what the call of the law comes to, at every number. -/
import Derived.Test.YtaahnicjjpddjaaDecFormsW
import Derived.Test.YtaahnicjjpddjaaWordLaw
namespace Go.Proofs.Ytaahnicjjpddjaa.DecW
open Go.RowKit Go.Proofs.Ytaahnicjjpddjaa.GAwd Go.Proofs.YtaahnicjjpddjaaW.PrintWords Go.Proofs.YtaahnicjjpddjaaW.PrintLast Go.Proofs.YtaahnicjjpddjaaW.PrintMore Go.Proofs.Ytaahnicjjpddjaa.Fld Go.Proofs.Ytaahnicjjpddjaa.Mat Go.Proofs.Ytaahnicjjpddjaa.Fn Go.Proofs.Ytaahnicjjpddjaa.Pr Go.Proofs.Ytaahnicjjpddjaa.Enc
open Go.Proofs.Ytaahnicjjpddjaa.GvcVec (alikeB)

theorem awake7_f {k : Nat} (hk : 61000 < k) : ossuarylaw7_awake.f k = some true := by
  unfold ossuarylaw7_awake.f
  have e1 : GEnc.decode_Decode.f k 2 1 [⟨#[]⟩, ⟨#[98]⟩, ⟨#[103]⟩] [false, true, true] = some ([⟨#[97]⟩, ⟨#[98]⟩], 0) :=
    dec_word hk (d := 2) (p := 1) (by omega) (by omega) (by omega) (data := [⟨#[97]⟩, ⟨#[98]⟩]) rfl (by decide +kernel) rfl rfl (by decide) (by decide +kernel) (fun t ht => by
      unfold word
      rw [par21]
      rcases (show t = 0 ∨ t = 1 by omega) with rfl | rfl <;> rfl)
  have e2 : GEnc.decode_Decode.f k 2 1 [⟨#[]⟩, ⟨#[98]⟩, ⟨#[]⟩] [false, true, false] = some ([], 701) :=
    dec_few hk (d := 2) (p := 1) (by omega) (by omega) (by omega) rfl rfl (by decide) (by decide +kernel)
  have e3 : GEnc.decode_Decode.f k 2 1 [⟨#[]⟩, ⟨#[98]⟩] [false, true] = some ([], 700) := dec_no hk 2 1 _ _ (by simp)
  rw [e1, e2, e3]
  simp only [Option.bind_some, num_f]
  rw [same_self _ (by decide) (by simp; omega)]
  rfl
theorem long_size (n : Nat) : (strOfNums (List.replicate n 0)).size = n := by
  have e : List.replicate n (0 : Int) = (GvcVec.zerosF n).map toI := GvcVec.zeros_map n
  rw [e]
  show (GvcVec.strF (GvcVec.zerosF n)).size = n
  rw [GvcVec.strF_size]
  unfold GvcVec.zerosF
  simp
theorem long_bad {k : Nat} (hk : 61000 < k) (L : ByteArray) (h : 4096 < L.size) : GEnc.decode_Decode.f k 2 1 [L, L, L] [true, true, true] = some ([], 700) := by
  refine dec_bad hk (d := 2) (p := 1) (by omega) (by omega) (by omega) rfl rfl (Bool.eq_false_iff.2 (fun h1 => ?_))
  have h2 := (GvcVec.alikeB_size h1 L (List.mem_cons_self)).2
  omega

theorem calls (a0 a1 : Int) (r : Bool) (w : World) (h : r = true) : Calls Try.prog 19 #[.int .i64 a0, .int .i64 a1] w fun e w' => e = .returned (.bool r) ∧ Below w.heap.size w w' := by
  subst h
  have hk : 61000 < 61001 := by decide
  have e2 : GEnc.decode_Decode.f 61001 2 1 [⟨#[97]⟩, ⟨#[98, 99]⟩, ⟨#[]⟩] [true, false, false] = some ([], 701) :=
    dec_few hk (d := 2) (p := 1) (by omega) (by omega) (by omega) rfl rfl (by decide) (by decide +kernel)
  obtain ⟨b, hb⟩ : ∃ b, Go.bits .and .i64 a1 1023 = b := ⟨_, rfl⟩
  have hb0 : 0 ≤ b ∧ b < 1024 := by rw [← hb, and_1023]; omega
  have hb1 : wrap64 (1 + b) = 1 + b := wrap64_in (by omega) (by omega)
  have hb2 : wrap64 (-(1 + b)) = -(1 + b) := wrap64_in (by omega) (by omega)
  obtain ⟨n, hn⟩ : ∃ n : Int, 4096 + (1 + b) = n := ⟨_, rfl⟩
  have hb3 : wrap64 (4096 + (1 + b)) = n := by rw [wrap64_in (by omega) (by omega)]; exact hn
  have hn0 : 0 ≤ n := by omega
  have hn1 : n.toNat ≤ 281474976710656 := by omega
  have hn2 : 4096 < n.toNat := by omega
  obtain ⟨L, hL⟩ : ∃ L, strOfNums (List.replicate n.toNat 0) = L := ⟨_, rfl⟩
  have hLs : 4096 < L.size := by rw [← hL, long_size]; exact hn2
  have ha7 := awake7_f hk
  have eL := long_bad hk L hLs
  have e0 := dec_no hk 0 0 [] [] (by omega)
  have e1 := dec_no hk 2 1 [⟨#[97]⟩, ⟨#[98]⟩] [true, true] (by simp)
  have e1' := dec_no hk 2 1 [⟨#[97]⟩, ⟨#[98]⟩, ⟨#[99]⟩] [true, true] (by simp)
  have e3 := dec_bad hk (d := 2) (p := 1) (by omega) (by omega) (by omega) (shards := [⟨#[97]⟩, ⟨#[98, 99]⟩, ⟨#[100]⟩]) (hv := [true, true, false]) rfl rfl (by decide +kernel)
  have e5 := dec_no hk 2 (-(1 + b)) [⟨#[97]⟩, ⟨#[98]⟩, ⟨#[99]⟩] [true, true, true] (by omega)
  obtain ⟨r, hr, e⟩ := mod_u a0 6 (by omega) (by omega)
  rw [show ((6 : Nat) : Int) = 6 from rfl] at e
  clear hn hn2 hLs hb0
  obtain rfl | rfl | rfl | rfl | rfl | rfl : r = 0 ∨ r = 1 ∨ r = 2 ∨ r = 3 ∨ r = 4 ∨ r = 5 := by clear hb1 hb2 hb3 e hb hn0 hn1; omega
  · exact walk0 61001 a0 a1 b n L w ha7 hb e hb1 hb2 hb3 hn0 hn1 hL e0 e2
  · exact walk1 61001 a0 a1 b n L w ha7 hb e hb1 hb2 hb3 hn0 hn1 hL e1 e2
  · exact walk2 61001 a0 a1 b n L w ha7 hb e hb1 hb2 hb3 hn0 hn1 hL e1' e2
  · exact walk3 61001 a0 a1 b n L w ha7 hb e hb1 hb2 hb3 hn0 hn1 hL e3 e2
  · exact walk4 61001 a0 a1 b n L w ha7 hb e hb1 hb2 hb3 hn0 hn1 hL eL e2
  · exact walk5 61001 a0 a1 b n L w ha7 hb e hb1 hb2 hb3 hn0 hn1 hL e5 e2
end Go.Proofs.Ytaahnicjjpddjaa.DecW
