/- Functions of the program as Lean functions, each with a proof that its call comes to what the function says; written by wip/gen.py of our own repo. No condition. -/
import Derived.Test.YtaahnicjjpddjaaKDecodeSumsGDecodeSums0
import Derived.Test.YtaahnicjjpddjaaKDecodeSumsGDecodeSums1
namespace Go.Proofs.Ytaahnicjjpddjaa.GDecodeSums
open Go.Proofs.Ytaahnicjjpddjaa.Fn
open Go.Proofs.Ytaahnicjjpddjaa
open Go.RowKit Go.Proofs.YtaahnicjjpddjaaW.PrintWords Go.Proofs.YtaahnicjjpddjaaW.PrintLast
set_option linter.unusedVariables false
set_option linter.unusedSimpArgs false
def mn (a b : Int) : Int := if b < a then b else a   -- the smaller

/-! ### ossuarylaw7_DecodeSums: function 21 -/
mutual
noncomputable def ossuarylaw7_DecodeSums.l0 : Nat → ByteArray → ByteArray → Int → Int → Int → List Bool → Int → Int → Int → Int → Option (Bool)
 | 0, _, _, _, _, _, _, _, _, _, _ => none
 | k + 1, x1, x2, x3, x10, x11, x12, x13, x14, x146000, x146001 => if x14 < x10 then (if 0 ≤ x14 then (if (Go.bits .and .i64 (shr .i64 x3 x14) 1) = 1 then (if x14 < (x12.length : Int) then ((some (x12.set (x14 : Int).toNat true : List Bool)).bind fun y149 => (if rdOf false y149 x14 = true then (ossuarylaw7_DecodeSums.l0 k x1 x2 x3 x10 x11 y149 (wrap64 (x13 + 1)) (wrap64 (x14 + 1)) x146000 x146001) else (ossuarylaw7_DecodeSums.l0 k x1 x2 x3 x10 x11 y149 x13 (wrap64 (x14 + 1)) x146000 x146001))) else (none)) else (if x14 < (x12.length : Int) then ((some (x12.set (x14 : Int).toNat (decide ((wrap64 (x10 - x14)) ≤ (wrap64 (x146000 - x13)))) : List Bool)).bind fun y151 => (if rdOf false y151 x14 = true then (ossuarylaw7_DecodeSums.l0 k x1 x2 x3 x10 x11 y151 (wrap64 (x13 + 1)) (wrap64 (x14 + 1)) x146000 x146001) else (ossuarylaw7_DecodeSums.l0 k x1 x2 x3 x10 x11 y151 x13 (wrap64 (x14 + 1)) x146000 x146001))) else (none))) else (none)) else (ossuarylaw7_DecodeSums.l1 k x1 x2 x10 x11 x12 ([] : List ByteArray) ([] : List ByteArray) ([] : List ByteArray) 0 x146000 x146001)
noncomputable def ossuarylaw7_DecodeSums.l1 : Nat → ByteArray → ByteArray → Int → Int → List Bool → List ByteArray → List ByteArray → List ByteArray → Int → Int → Int → Option (Bool)
 | 0, _, _, _, _, _, _, _, _, _, _, _ => none
 | k + 1, x1, x2, x10, x11, x12, x15, x16, x17, x18, x146000, x146001 => if x18 < x10 then (if 0 ≤ (wrap64 (x11 * x18)) then (if (wrap64 (x11 * x18)) ≤ (wrap64 ((wrap64 (x11 * x18)) + x11)) then (if (wrap64 ((wrap64 (x11 * x18)) + x11)) ≤ (x1.size : Int) then (if (wrap64 ((wrap64 (x11 * x18)) + x11)) ≤ (x2.size : Int) then ((GRef.ossuaryref1_Combine.f k (([1, 1] : List Int)) (([x1.extract ((wrap64 (x11 * x18)) : Int).toNat ((wrap64 ((wrap64 (x11 * x18)) + x11)) : Int).toNat, x2.extract ((wrap64 (x11 * x18)) : Int).toNat ((wrap64 ((wrap64 (x11 * x18)) + x11)) : Int).toNat] : List ByteArray))).bind fun bt159 => (if bt159.2 = 0 then (if x15.length < 8796093022208 then (if x16.length < 8796093022208 then (if x17.length < 8796093022208 then (ossuarylaw7_DecodeSums.l1 k x1 x2 x10 x11 x12 (x15 ++ [x1.extract ((wrap64 (x11 * x18)) : Int).toNat ((wrap64 ((wrap64 (x11 * x18)) + x11)) : Int).toNat]) (x16 ++ [x2.extract ((wrap64 (x11 * x18)) : Int).toNat ((wrap64 ((wrap64 (x11 * x18)) + x11)) : Int).toNat]) (x17 ++ [bt159.1]) (wrap64 (x18 + 1)) x146000 x146001) else (none)) else (none)) else (none)) else (some false))) else (none)) else (none)) else (none)) else (none)) else ((GEnc.decode_Decode.f k x146000 x146001 x15 x12).bind fun bt170 => ((GEnc.decode_Decode.f k x146000 x146001 x16 x12).bind fun bt174 => ((GEnc.decode_Decode.f k x146000 x146001 x17 x12).bind fun bt178 => ((GBase.ossuarylaw0_Num.f bt170.2).bind fun t182 => (if t182 = 0 then ((GBase.ossuarylaw0_Num.f bt174.2).bind fun t183 => (if t183 = 0 then ((GBase.ossuarylaw0_Num.f bt178.2).bind fun t184 => (if t184 = 0 then (if (bt170.1.length : Int) = x146000 then (if (bt174.1.length : Int) = x146000 then (ossuarylaw7_DecodeSums.j2 k bt170.1 bt174.1 bt178.1 ((bt178.1.length : Int) != x146000) x146000 x146001) else (ossuarylaw7_DecodeSums.j2 k bt170.1 bt174.1 bt178.1 true x146000 x146001)) else (ossuarylaw7_DecodeSums.j2 k bt170.1 bt174.1 bt178.1 true x146000 x146001)) else (ossuarylaw7_DecodeSums.j2 k bt170.1 bt174.1 bt178.1 true x146000 x146001))) else (ossuarylaw7_DecodeSums.j2 k bt170.1 bt174.1 bt178.1 true x146000 x146001))) else (ossuarylaw7_DecodeSums.j2 k bt170.1 bt174.1 bt178.1 true x146000 x146001))))))
noncomputable def ossuarylaw7_DecodeSums.j2 : Nat → List ByteArray → List ByteArray → List ByteArray → Bool → Int → Int → Option (Bool)
 | 0, _, _, _, _, _, _ => none
 | k + 1, x23, x25, x27, x186, x146000, x146001 => if x186 = true then (some false) else (ossuarylaw7_DecodeSums.l2 k x23 x25 x27 0 x146000 x146001)
noncomputable def ossuarylaw7_DecodeSums.l2 : Nat → List ByteArray → List ByteArray → List ByteArray → Int → Int → Int → Option (Bool)
 | 0, _, _, _, _, _, _ => none
 | k + 1, x23, x25, x27, x29, x146000, x146001 => if x29 < x146000 then (if 0 ≤ x29 then (if x29 < (x23.length : Int) then (if x29 < (x25.length : Int) then ((GRef.ossuaryref1_Combine.f k (([1, 1] : List Int)) (([rdOf ByteArray.empty x23 x29, rdOf ByteArray.empty x25 x29] : List ByteArray))).bind fun bt193 => (if bt193.2 = 0 then (if x29 < (x27.length : Int) then (if bt193.1.toList = (rdOf ByteArray.empty x27 x29).toList then (ossuarylaw7_DecodeSums.l2 k x23 x25 x27 (wrap64 (x29 + 1)) x146000 x146001) else (some false)) else (none)) else (some false))) else (none)) else (none)) else (none)) else (some true)
end
noncomputable def ossuarylaw7_DecodeSums.f (k : Nat) (a0 : Int) (a1 : ByteArray) (a2 : ByteArray) (a3 : Int) : Option (Bool) := (ossuarylaw7_awake.f k).bind fun t144 => (if t144 = true then (if (wrap64 ((wrap64 (1 + (wrap64 (Int.tmod (IntKind.u64.wrap (a0)) 4)))) + 2)) = 0 then (none) else (if 0 ≤ (wrap64 ((wrap64 (1 + (wrap64 (Int.tmod (IntKind.u64.wrap (a0)) 4)))) + 2)) then (if (wrap64 ((wrap64 (1 + (wrap64 (Int.tmod (IntKind.u64.wrap (a0)) 4)))) + 2) : Int).toNat ≤ 281474976710656 then (ossuarylaw7_DecodeSums.l0 k a1 a2 a3 (wrap64 ((wrap64 (1 + (wrap64 (Int.tmod (IntKind.u64.wrap (a0)) 4)))) + 2)) (mn (mn (wrap64 ((a1.size : Int) / (wrap64 ((wrap64 (1 + (wrap64 (Int.tmod (IntKind.u64.wrap (a0)) 4)))) + 2)))) (wrap64 ((a2.size : Int) / (wrap64 ((wrap64 (1 + (wrap64 (Int.tmod (IntKind.u64.wrap (a0)) 4)))) + 2))))) 30) (List.replicate (wrap64 ((wrap64 (1 + (wrap64 (Int.tmod (IntKind.u64.wrap (a0)) 4)))) + 2) : Int).toNat false) 0 0 (wrap64 (1 + (wrap64 (Int.tmod (IntKind.u64.wrap (a0)) 4)))) 2) else (none)) else (none))) else (some false))
theorem ossuarylaw7_DecodeSums.mono_l : ∀ k, (∀ y0 y1 y2 y3 y4 y5 y6 y7 y8 y9, LeO (ossuarylaw7_DecodeSums.l0 k y0 y1 y2 y3 y4 y5 y6 y7 y8 y9) (ossuarylaw7_DecodeSums.l0 (k + 1) y0 y1 y2 y3 y4 y5 y6 y7 y8 y9)) ∧ (∀ y0 y1 y2 y3 y4 y5 y6 y7 y8 y9 y10, LeO (ossuarylaw7_DecodeSums.l1 k y0 y1 y2 y3 y4 y5 y6 y7 y8 y9 y10) (ossuarylaw7_DecodeSums.l1 (k + 1) y0 y1 y2 y3 y4 y5 y6 y7 y8 y9 y10)) ∧ (∀ y0 y1 y2 y3 y4 y5, LeO (ossuarylaw7_DecodeSums.j2 k y0 y1 y2 y3 y4 y5) (ossuarylaw7_DecodeSums.j2 (k + 1) y0 y1 y2 y3 y4 y5)) ∧ (∀ y0 y1 y2 y3 y4 y5, LeO (ossuarylaw7_DecodeSums.l2 k y0 y1 y2 y3 y4 y5) (ossuarylaw7_DecodeSums.l2 (k + 1) y0 y1 y2 y3 y4 y5))
 | 0 => ⟨fun _ _ _ _ _ _ _ _ _ _ r h => by simp [ossuarylaw7_DecodeSums.l0] at h, fun _ _ _ _ _ _ _ _ _ _ _ r h => by simp [ossuarylaw7_DecodeSums.l1] at h, fun _ _ _ _ _ _ r h => by simp [ossuarylaw7_DecodeSums.j2] at h, fun _ _ _ _ _ _ r h => by simp [ossuarylaw7_DecodeSums.l2] at h⟩
 | k + 1 => by
  obtain ⟨ih0, ih1, ih2, ih3⟩ := ossuarylaw7_DecodeSums.mono_l k
  refine ⟨?_, ?_, ?_, ?_⟩
  ·intro y0 y1 y2 y3 y4 y5 y6 y7 y8 y9
   unfold ossuarylaw7_DecodeSums.l0
   repeat' first
   | (with_reducible exact ih0 _ _ _ _ _ _ _ _ _ _)
   | (with_reducible exact ih1 _ _ _ _ _ _ _ _ _ _ _)
   | (with_reducible exact ih2 _ _ _ _ _ _)
   | (with_reducible exact ih3 _ _ _ _ _ _)
   | (with_reducible exact GEnc.decode_Decode.mono _ _ _ _ _)
   | (with_reducible exact GRef.ossuaryref1_Combine.mono _ _ _)
   | (with_reducible exact ossuarylaw7_awake.mono _)
   | (with_reducible exact LeO.refl _)
   | (with_reducible exact LeO.none _)
   | (with_reducible refine LeO.ite ?_ ?_)
   | (with_reducible refine LeO.bind ?_ (fun _ => ?_))
   | exact ih0 _ _ _ _ _ _ _ _ _ _
   | exact ih1 _ _ _ _ _ _ _ _ _ _ _
   | exact ih2 _ _ _ _ _ _
   | exact ih3 _ _ _ _ _ _
   | exact GEnc.decode_Decode.mono _ _ _ _ _
   | exact GRef.ossuaryref1_Combine.mono _ _ _
   | exact ossuarylaw7_awake.mono _
   | exact LeO.none _
   | refine LeO.ite ?_ ?_
   | refine LeO.bind ?_ (fun _ => ?_)
  ·intro y0 y1 y2 y3 y4 y5 y6 y7 y8 y9 y10
   unfold ossuarylaw7_DecodeSums.l1
   repeat' first
   | (with_reducible exact ih0 _ _ _ _ _ _ _ _ _ _)
   | (with_reducible exact ih1 _ _ _ _ _ _ _ _ _ _ _)
   | (with_reducible exact ih2 _ _ _ _ _ _)
   | (with_reducible exact ih3 _ _ _ _ _ _)
   | (with_reducible exact GEnc.decode_Decode.mono _ _ _ _ _)
   | (with_reducible exact GRef.ossuaryref1_Combine.mono _ _ _)
   | (with_reducible exact ossuarylaw7_awake.mono _)
   | (with_reducible exact LeO.refl _)
   | (with_reducible exact LeO.none _)
   | (with_reducible refine LeO.ite ?_ ?_)
   | (with_reducible refine LeO.bind ?_ (fun _ => ?_))
   | exact ih0 _ _ _ _ _ _ _ _ _ _
   | exact ih1 _ _ _ _ _ _ _ _ _ _ _
   | exact ih2 _ _ _ _ _ _
   | exact ih3 _ _ _ _ _ _
   | exact GEnc.decode_Decode.mono _ _ _ _ _
   | exact GRef.ossuaryref1_Combine.mono _ _ _
   | exact ossuarylaw7_awake.mono _
   | exact LeO.none _
   | refine LeO.ite ?_ ?_
   | refine LeO.bind ?_ (fun _ => ?_)
  ·intro y0 y1 y2 y3 y4 y5
   unfold ossuarylaw7_DecodeSums.j2
   repeat' first
   | (with_reducible exact ih0 _ _ _ _ _ _ _ _ _ _)
   | (with_reducible exact ih1 _ _ _ _ _ _ _ _ _ _ _)
   | (with_reducible exact ih2 _ _ _ _ _ _)
   | (with_reducible exact ih3 _ _ _ _ _ _)
   | (with_reducible exact GEnc.decode_Decode.mono _ _ _ _ _)
   | (with_reducible exact GRef.ossuaryref1_Combine.mono _ _ _)
   | (with_reducible exact ossuarylaw7_awake.mono _)
   | (with_reducible exact LeO.refl _)
   | (with_reducible exact LeO.none _)
   | (with_reducible refine LeO.ite ?_ ?_)
   | (with_reducible refine LeO.bind ?_ (fun _ => ?_))
   | exact ih0 _ _ _ _ _ _ _ _ _ _
   | exact ih1 _ _ _ _ _ _ _ _ _ _ _
   | exact ih2 _ _ _ _ _ _
   | exact ih3 _ _ _ _ _ _
   | exact GEnc.decode_Decode.mono _ _ _ _ _
   | exact GRef.ossuaryref1_Combine.mono _ _ _
   | exact ossuarylaw7_awake.mono _
   | exact LeO.none _
   | refine LeO.ite ?_ ?_
   | refine LeO.bind ?_ (fun _ => ?_)
  ·intro y0 y1 y2 y3 y4 y5
   unfold ossuarylaw7_DecodeSums.l2
   repeat' first
   | (with_reducible exact ih0 _ _ _ _ _ _ _ _ _ _)
   | (with_reducible exact ih1 _ _ _ _ _ _ _ _ _ _ _)
   | (with_reducible exact ih2 _ _ _ _ _ _)
   | (with_reducible exact ih3 _ _ _ _ _ _)
   | (with_reducible exact GEnc.decode_Decode.mono _ _ _ _ _)
   | (with_reducible exact GRef.ossuaryref1_Combine.mono _ _ _)
   | (with_reducible exact ossuarylaw7_awake.mono _)
   | (with_reducible exact LeO.refl _)
   | (with_reducible exact LeO.none _)
   | (with_reducible refine LeO.ite ?_ ?_)
   | (with_reducible refine LeO.bind ?_ (fun _ => ?_))
   | exact ih0 _ _ _ _ _ _ _ _ _ _
   | exact ih1 _ _ _ _ _ _ _ _ _ _ _
   | exact ih2 _ _ _ _ _ _
   | exact ih3 _ _ _ _ _ _
   | exact GEnc.decode_Decode.mono _ _ _ _ _
   | exact GRef.ossuaryref1_Combine.mono _ _ _
   | exact ossuarylaw7_awake.mono _
   | exact LeO.none _
   | refine LeO.ite ?_ ?_
   | refine LeO.bind ?_ (fun _ => ?_)
theorem ossuarylaw7_DecodeSums.mono : ∀ a0 a1 a2 a3 k, LeO (ossuarylaw7_DecodeSums.f k a0 a1 a2 a3) (ossuarylaw7_DecodeSums.f (k + 1) a0 a1 a2 a3) := by
 intro a0 a1 a2 a3 k
 obtain ⟨ih0, ih1, ih2, ih3⟩ := ossuarylaw7_DecodeSums.mono_l k
 unfold ossuarylaw7_DecodeSums.f
 repeat' first
   | (with_reducible exact ih0 _ _ _ _ _ _ _ _ _ _)
   | (with_reducible exact ih1 _ _ _ _ _ _ _ _ _ _ _)
   | (with_reducible exact ih2 _ _ _ _ _ _)
   | (with_reducible exact ih3 _ _ _ _ _ _)
   | (with_reducible exact GEnc.decode_Decode.mono _ _ _ _ _)
   | (with_reducible exact GRef.ossuaryref1_Combine.mono _ _ _)
   | (with_reducible exact ossuarylaw7_awake.mono _)
   | (with_reducible exact LeO.refl _)
   | (with_reducible exact LeO.none _)
   | (with_reducible refine LeO.ite ?_ ?_)
   | (with_reducible refine LeO.bind ?_ (fun _ => ?_))
   | exact ih0 _ _ _ _ _ _ _ _ _ _
   | exact ih1 _ _ _ _ _ _ _ _ _ _ _
   | exact ih2 _ _ _ _ _ _
   | exact ih3 _ _ _ _ _ _
   | exact GEnc.decode_Decode.mono _ _ _ _ _
   | exact GRef.ossuaryref1_Combine.mono _ _ _
   | exact ossuarylaw7_awake.mono _
   | exact LeO.none _
   | refine LeO.ite ?_ ?_
   | refine LeO.bind ?_ (fun _ => ?_)
noncomputable def ossuarylaw7_DecodeSums.T5 : Bool × List (List Nat × List Nat) := (true, [([], []), ([0], [0]), ([], []), ([1, 2], [1, 2]), ([], []), ([4], [4]), ([], []), ([5, 6], [5, 6]), ([3, 7], [3, 7]), ([8, 0, 1, 2, 3, 4, 5, 6, 7, 8], [8])])
noncomputable def ossuarylaw7_DecodeSums.B5 : List Nat := [0, 1, 0, 7, 0, 16, 0, 112, 255, 511]
theorem ossuarylaw7_DecodeSums.tab5 : rtab .any (opsOf Try.f21 5) = ossuarylaw7_DecodeSums.T5 := by kernel_rfl
theorem ossuarylaw7_DecodeSums.bits5 : waitsOk ossuarylaw7_DecodeSums.T5.2 ossuarylaw7_DecodeSums.B5 = true := by kernel_rfl
noncomputable def ossuarylaw7_DecodeSums.T18 : Bool × List (List Nat × List Nat) := (true, [([], []), ([], []), ([], []), ([1, 2], [1, 2]), ([], []), ([], []), ([4, 5], [4, 5]), ([], []), ([6, 7], [6, 7]), ([0, 3, 8], [0, 3, 8]), ([], []), ([], []), ([], []), ([11, 12], [11, 12]), ([], []), ([], []), ([14, 15], [14, 15]), ([], []), ([16, 17], [16, 17]), ([10, 13, 18], [10, 13, 18]), ([9, 0, 1, 2, 3, 4, 5, 6, 7, 8, 9], [9]), ([19, 20, 0, 1, 2, 3, 4, 5, 6, 7, 8, 9, 10, 11, 12, 13, 14, 15, 16, 17, 18, 19, 20], [19])])
noncomputable def ossuarylaw7_DecodeSums.B18 : List Nat := [0, 0, 0, 6, 0, 0, 48, 0, 240, 511, 0, 0, 0, 6144, 0, 0, 49152, 0, 245760, 523264, 1023, 2097151]
theorem ossuarylaw7_DecodeSums.tab18 : rtab .any (opsOf Try.f21 18) = ossuarylaw7_DecodeSums.T18 := by kernel_rfl
theorem ossuarylaw7_DecodeSums.bits18 : waitsOk ossuarylaw7_DecodeSums.T18.2 ossuarylaw7_DecodeSums.B18 = true := by kernel_rfl
noncomputable def ossuarylaw7_DecodeSums.T33 : Bool × List (List Nat × List Nat) := (true, [([], []), ([], []), ([], []), ([1, 2], [1, 2]), ([3], [3]), ([], []), ([], []), ([5, 6], [5, 6]), ([7], [7]), ([4, 8], [4, 8]), ([0, 9], [0, 9]), ([10], [10]), ([11], [11]), ([11], [11]), ([12, 10, 0, 1, 2, 3, 4, 5, 6, 7, 8, 9, 10, 11, 12], [12]), ([13, 14, 0, 1, 2, 3, 4, 5, 6, 7, 8, 9, 10, 11, 12, 13, 14], [13])])
noncomputable def ossuarylaw7_DecodeSums.B33 : List Nat := [0, 0, 0, 6, 14, 0, 0, 96, 224, 510, 1023, 2047, 4095, 4095, 8191, 32767]
theorem ossuarylaw7_DecodeSums.tab33 : rtab .any (opsOf Try.f21 33) = ossuarylaw7_DecodeSums.T33 := by kernel_rfl
theorem ossuarylaw7_DecodeSums.bits33 : waitsOk ossuarylaw7_DecodeSums.T33.2 ossuarylaw7_DecodeSums.B33 = true := by kernel_rfl
abbrev zGDecodeSums2_0 : Array Bool := #[true, true, true, true, true, true, true, true, true, true, false, false, false, false, false, false]
set_option maxHeartbeats 8000000 in
set_option maxRecDepth 100000 in
theorem ossuarylaw7_DecodeSums.calls (k : Nat) (a0 : Int) (a1 : ByteArray) (a2 : ByteArray) (a3 : Int) (r : Bool) (w : World) (h : ossuarylaw7_DecodeSums.f k a0 a1 a2 a3 = some r) (hT : r = true := by rfl) :
  Calls Try.prog 21 #[.int .i64 a0, .string a1, .string a2, .int .i64 a3] w fun e w' => e = .returned (.bool r) ∧ Below w.heap.size w w' := by
 have HTrue := mk0 hT
 clear hT
 have hu51 := Try.underlying51
 have HB := mk0 (Below.refl w.heap.size w)
 have H : ((ossuarylaw7_awake.f k).bind fun t144 => (if t144 = true then (if (wrap64 ((wrap64 (1 + (wrap64 (Int.tmod (IntKind.u64.wrap (a0)) 4)))) + 2)) = 0 then (none) else (if 0 ≤ (wrap64 ((wrap64 (1 + (wrap64 (Int.tmod (IntKind.u64.wrap (a0)) 4)))) + 2)) then (if (wrap64 ((wrap64 (1 + (wrap64 (Int.tmod (IntKind.u64.wrap (a0)) 4)))) + 2) : Int).toNat ≤ 281474976710656 then (ossuarylaw7_DecodeSums.l0 k a1 a2 a3 (wrap64 ((wrap64 (1 + (wrap64 (Int.tmod (IntKind.u64.wrap (a0)) 4)))) + 2)) (mn (mn (wrap64 ((a1.size : Int) / (wrap64 ((wrap64 (1 + (wrap64 (Int.tmod (IntKind.u64.wrap (a0)) 4)))) + 2)))) (wrap64 ((a2.size : Int) / (wrap64 ((wrap64 (1 + (wrap64 (Int.tmod (IntKind.u64.wrap (a0)) 4)))) + 2))))) 30) (List.replicate (wrap64 ((wrap64 (1 + (wrap64 (Int.tmod (IntKind.u64.wrap (a0)) 4)))) + 2) : Int).toNat false) 0 0 (wrap64 (1 + (wrap64 (Int.tmod (IntKind.u64.wrap (a0)) 4)))) 2) else (none)) else (none))) else (some false))) = some r := h
 clear h
 replace H := Option.bind_eq_some_iff.mp H
 obtain ⟨t144, A50, H⟩ := H
 replace H : (if t144 = true then (if (wrap64 ((wrap64 (1 + (wrap64 (Int.tmod (IntKind.u64.wrap (a0)) 4)))) + 2)) = 0 then (none) else (if 0 ≤ (wrap64 ((wrap64 (1 + (wrap64 (Int.tmod (IntKind.u64.wrap (a0)) 4)))) + 2)) then (if (wrap64 ((wrap64 (1 + (wrap64 (Int.tmod (IntKind.u64.wrap (a0)) 4)))) + 2) : Int).toNat ≤ 281474976710656 then (ossuarylaw7_DecodeSums.l0 k a1 a2 a3 (wrap64 ((wrap64 (1 + (wrap64 (Int.tmod (IntKind.u64.wrap (a0)) 4)))) + 2)) (mn (mn (wrap64 ((a1.size : Int) / (wrap64 ((wrap64 (1 + (wrap64 (Int.tmod (IntKind.u64.wrap (a0)) 4)))) + 2)))) (wrap64 ((a2.size : Int) / (wrap64 ((wrap64 (1 + (wrap64 (Int.tmod (IntKind.u64.wrap (a0)) 4)))) + 2))))) 30) (List.replicate (wrap64 ((wrap64 (1 + (wrap64 (Int.tmod (IntKind.u64.wrap (a0)) 4)))) + 2) : Int).toNat false) 0 0 (wrap64 (1 + (wrap64 (Int.tmod (IntKind.u64.wrap (a0)) 4)))) 2) else (none)) else (none))) else (some false)) = some r := H
 have A5 := mk0 A50
 clear A50
 by_cases c6 : t144 = true
 ·subst c6
  have H1 : (if (wrap64 ((wrap64 (1 + (wrap64 (Int.tmod (IntKind.u64.wrap (a0)) 4)))) + 2)) = 0 then (none) else (if 0 ≤ (wrap64 ((wrap64 (1 + (wrap64 (Int.tmod (IntKind.u64.wrap (a0)) 4)))) + 2)) then (if (wrap64 ((wrap64 (1 + (wrap64 (Int.tmod (IntKind.u64.wrap (a0)) 4)))) + 2) : Int).toNat ≤ 281474976710656 then (ossuarylaw7_DecodeSums.l0 k a1 a2 a3 (wrap64 ((wrap64 (1 + (wrap64 (Int.tmod (IntKind.u64.wrap (a0)) 4)))) + 2)) (mn (mn (wrap64 ((a1.size : Int) / (wrap64 ((wrap64 (1 + (wrap64 (Int.tmod (IntKind.u64.wrap (a0)) 4)))) + 2)))) (wrap64 ((a2.size : Int) / (wrap64 ((wrap64 (1 + (wrap64 (Int.tmod (IntKind.u64.wrap (a0)) 4)))) + 2))))) 30) (List.replicate (wrap64 ((wrap64 (1 + (wrap64 (Int.tmod (IntKind.u64.wrap (a0)) 4)))) + 2) : Int).toNat false) 0 0 (wrap64 (1 + (wrap64 (Int.tmod (IntKind.u64.wrap (a0)) 4)))) 2) else (none)) else (none))) = some r := by rw [if_pos rfl] at H; exact H
  clear H
  have H := H1
  clear H1
  by_cases c7 : (wrap64 ((wrap64 (1 + (wrap64 (Int.tmod (IntKind.u64.wrap (a0)) 4)))) + 2)) = 0
  ·rw [if_pos c7] at H
   exact absurd H (by simp)
  ·rw [if_neg c7] at H
   have c7b0 : ((wrap64 ((wrap64 (1 + (wrap64 (Int.tmod (IntKind.u64.wrap (a0)) 4)))) + 2)) == 0) = false := beq_eq_false_iff_ne.mpr c7
   have c7b1 : ((wrap64 ((wrap64 (1 + (wrap64 (Int.tmod (IntKind.u64.wrap (a0)) 4)))) + 2)) != 0) = true := bne_iff_ne.mpr c7
   obtain ⟨ji8, hji8⟩ : ∃ j_ : Int, (mn (wrap64 ((a1.size : Int) / (wrap64 ((wrap64 (1 + (wrap64 (Int.tmod (IntKind.u64.wrap (a0)) 4)))) + 2)))) (wrap64 ((a2.size : Int) / (wrap64 ((wrap64 (1 + (wrap64 (Int.tmod (IntKind.u64.wrap (a0)) 4)))) + 2))))) = j_ := ⟨_, rfl⟩
   replace H : (if 0 ≤ (wrap64 ((wrap64 (1 + (wrap64 (Int.tmod (IntKind.u64.wrap (a0)) 4)))) + 2)) then (if (wrap64 ((wrap64 (1 + (wrap64 (Int.tmod (IntKind.u64.wrap (a0)) 4)))) + 2) : Int).toNat ≤ 281474976710656 then (ossuarylaw7_DecodeSums.l0 k a1 a2 a3 (wrap64 ((wrap64 (1 + (wrap64 (Int.tmod (IntKind.u64.wrap (a0)) 4)))) + 2)) (mn (ji8) 30) (List.replicate (wrap64 ((wrap64 (1 + (wrap64 (Int.tmod (IntKind.u64.wrap (a0)) 4)))) + 2) : Int).toNat false) 0 0 (wrap64 (1 + (wrap64 (Int.tmod (IntKind.u64.wrap (a0)) 4)))) 2) else (none)) else (none)) = some r := by first | (rw [hji8] at H; exact H) | (simp only [hji8] at H ⊢; exact H)
   (try rw [hji8] at A5)
   have hji8_ : (if (wrap64 ((a2.size : Int) / (wrap64 ((wrap64 (1 + (wrap64 (Int.tmod (IntKind.u64.wrap (a0)) 4)))) + 2)))) < (wrap64 ((a1.size : Int) / (wrap64 ((wrap64 (1 + (wrap64 (Int.tmod (IntKind.u64.wrap (a0)) 4)))) + 2)))) then (wrap64 ((a2.size : Int) / (wrap64 ((wrap64 (1 + (wrap64 (Int.tmod (IntKind.u64.wrap (a0)) 4)))) + 2)))) else (wrap64 ((a1.size : Int) / (wrap64 ((wrap64 (1 + (wrap64 (Int.tmod (IntKind.u64.wrap (a0)) 4)))) + 2))))) = ji8 := hji8
   obtain ⟨ji9, hji9⟩ : ∃ j_ : Int, (mn (ji8) 30) = j_ := ⟨_, rfl⟩
   replace H : (if 0 ≤ (wrap64 ((wrap64 (1 + (wrap64 (Int.tmod (IntKind.u64.wrap (a0)) 4)))) + 2)) then (if (wrap64 ((wrap64 (1 + (wrap64 (Int.tmod (IntKind.u64.wrap (a0)) 4)))) + 2) : Int).toNat ≤ 281474976710656 then (ossuarylaw7_DecodeSums.l0 k a1 a2 a3 (wrap64 ((wrap64 (1 + (wrap64 (Int.tmod (IntKind.u64.wrap (a0)) 4)))) + 2)) ji9 (List.replicate (wrap64 ((wrap64 (1 + (wrap64 (Int.tmod (IntKind.u64.wrap (a0)) 4)))) + 2) : Int).toNat false) 0 0 (wrap64 (1 + (wrap64 (Int.tmod (IntKind.u64.wrap (a0)) 4)))) 2) else (none)) else (none)) = some r := by first | (rw [hji9] at H; exact H) | (simp only [hji9] at H ⊢; exact H)
   (try rw [hji9] at A5)
   have hji9_ : (if 30 < (ji8) then 30 else (ji8)) = ji9 := hji9
   obtain ⟨ji10, hji10⟩ : ∃ j_ : Int, (wrap64 ((wrap64 (1 + (wrap64 (Int.tmod (IntKind.u64.wrap (a0)) 4)))) + 2)) = j_ := ⟨_, rfl⟩
   replace H : (if 0 ≤ (ji10) then (if (ji10 : Int).toNat ≤ 281474976710656 then (ossuarylaw7_DecodeSums.l0 k a1 a2 a3 ji10 ji9 (List.replicate (ji10 : Int).toNat false) 0 0 (wrap64 (1 + (wrap64 (Int.tmod (IntKind.u64.wrap (a0)) 4)))) 2) else (none)) else (none)) = some r := by first | (rw [hji10] at H; exact H) | (simp only [hji10] at H ⊢; exact H)
   (try rw [hji10] at c7b0)
   (try rw [hji10] at c7b1)
   (try rw [hji10] at A5)
   have c7z_ : (ji10 = 0) = False := eq_false (beq_eq_false_iff_ne.mp c7b0)
   have hm3_ : Go.Builtin.min_ #[3, 3, 3] 3 #[.int .i64 (wrap64 ((a1.size : Int) / ji10)), .int .i64 (wrap64 ((a2.size : Int) / ji10)), .int .i64 30] = (pure (.int .i64 ji9) : Go.Sem Go.Value) := by
    rw [← hji9, ← hji8, hji10]
    first | rfl | (simp only [Go.Builtin.min_, List.foldlM, Go.Builtin.min2, pure_bind, mn]; rfl) | (simp [Go.Builtin.min_, Go.Builtin.min2, mn])
   have hji10w : (IntKind.i64.wrap ((wrap64 (1 + (wrap64 (Int.tmod (IntKind.u64.wrap (a0)) 4)))) + 2)) = ji10 := (i64_w _).trans hji10
   by_cases c11 : 0 ≤ (ji10)
   ·rw [if_pos c11] at H
    have c11b0 := eq_true c11
    have c11b1 : decide (0 ≤ (ji10)) = true := decide_eq_true c11
    clear c11
    by_cases c12 : (ji10 : Int).toNat ≤ 281474976710656
    ·rw [if_pos c12] at H
     have c12b0 := eq_true c12
     have c12b1 : decide ((ji10 : Int).toNat ≤ 281474976710656) = true := decide_eq_true c12
     clear c12
     obtain ⟨y146, hy146⟩ : ∃ y_ : List Bool, y_ = (List.replicate (ji10 : Int).toNat false) := ⟨_, rfl⟩
     replace H : (ossuarylaw7_DecodeSums.l0 k a1 a2 a3 ji10 ji9 y146 0 0 (wrap64 (1 + (wrap64 (Int.tmod (IntKind.u64.wrap (a0)) 4)))) 2) = some r := by first | (rw [hy146]; with_reducible exact H) | (have H2_ := (Option.bind_some _ _).symm.trans H; rw [hy146]; with_reducible exact H2_) | (have H2_ := (Option.bind_some _ _).symm.trans H; with_reducible exact H2_) | with_reducible exact H | (rw [hy146]; exact H) | exact H
     have Ny146 := mk0 hy146
     clear hy146
     have H' := mk0 H
     clear H
     go_enter Try.func21, Try.ntmps21
     try go_wp2_with (first | ((with_reducible refine gCa (f := 55) rfl ?_); refine goesL_ (some 32) rfl rfl Try.func55 (by kernel_rfl) rfl #[] rfl (by (try simp only [List.map_toArray, List.map_cons, List.map_nil]); first | done | rfl | (simp only [List.length_drop, List.length_take]; rfl)) ?_; (with_reducible refine (ossuarylaw7_awake.calls k  true _ A5.out).mono ?_); rintro e w13 ⟨rfl, hb⟩; refine ⟨_, rfl, ?_⟩; have n0_ := mk0 (below_step (by repeat (first | (with_reducible first | exact HB.out | apply lA | apply lN | apply lD) | exact HB.out)) hb); clear HB; have HB := n0_; clear n0_; (try clear hb); (try clear hb2); (try clear hk); (try clear hi)) | ((with_reducible refine gate_dst (N := 9) rfl ?_); (try (refine gate_guard (by rfl) ?_; dsimp only)); refine box_event ?hg (N := 9) ?hd (cs := #[.int .i64 0, .int .i64 0]) (t := 51) ?hr ?_; (case hd => rfl); (case hg => rfl); (case hr => first | (go_simp; done) | (go_simp; rfl)); intro gb145 hg w14 hbox hb; have n0_ := mk0 (below_step (by repeat (first | (with_reducible first | exact HB.out | apply lA | apply lN | apply lD) | exact HB.out)) hb); have n1_ := mk0 (hbox); have n2_ := mk0 ((by rw [hg]; exact (below_size (by repeat (first | (with_reducible first | exact HB.out | apply lA | apply lN | apply lD) | exact HB.out))) : w.heap.size ≤ gb145)); have n3_ := mk0 ((by rw [hg]; exact (below_size (by repeat (first | (with_reducible first | exact HB.out | apply lA | apply lN | apply lD) | exact HB.out))) : w.heap.size ≤ gb145)); clear HB; have HB := n0_; have BK145 := n1_; have GW145 := n2_; have GE145 := n3_; clear n0_ n1_ n2_ n3_; clear hb hbox hg; have hcz15_0 : w14.cell? ⟨gb145, 0, none⟩ = some (.int .i64 0) := (blk_cell BK145.out 0).trans rfl; have hcz15_1 : w14.cell? ⟨gb145, 1, none⟩ = some (.int .i64 0) := (blk_cell BK145.out 1).trans rfl; have hfz15_0 := blk_frozen BK145.out 0; have hfz15_1 := blk_frozen BK145.out 1))
     have n0_ : Aside0 (((w14.setCell ⟨gb145, 0, none⟩ (.int .i64 (wrap64 (1 + (wrap64 (Int.tmod (IntKind.u64.wrap (a0)) 4)))))).setCell ⟨gb145, 1, none⟩ (.int .i64 2)).heap[gb145]? = some (.cells #[.int .i64 (wrap64 (1 + (wrap64 (Int.tmod (IntKind.u64.wrap (a0)) 4)))), .int .i64 2] 51 (0, 0))) := ⟨by (with_reducible repeat (first | apply bN | apply bD | apply bA)); refine blk_put (cs := #[.int .i64 (wrap64 (1 + (wrap64 (Int.tmod (IntKind.u64.wrap (a0)) 4)))), .int .i64 0]) ?_ 1 _ rfl; (with_reducible repeat (first | apply bN | apply bD | apply bA)); refine blk_put (cs := #[.int .i64 0, .int .i64 0]) ?_ 0 _ rfl; (with_reducible repeat (first | apply bN | apply bD | apply bA)); exact BK145.out⟩
     have n1_ : Aside0 (Below w.heap.size w ((w14.setCell ⟨gb145, 0, none⟩ (.int .i64 (wrap64 (1 + (wrap64 (Int.tmod (IntKind.u64.wrap (a0)) 4)))))).setCell ⟨gb145, 1, none⟩ (.int .i64 2))) := ⟨by repeat (first | (with_reducible first | exact HB.out | apply lA | apply lN | apply lD | refine lT ?_ ‹_›) | exact HB.out)⟩
     (try clear BK145)
     (try clear HB)
     generalize ((w14.setCell ⟨gb145, 0, none⟩ (.int .i64 (wrap64 (1 + (wrap64 (Int.tmod (IntKind.u64.wrap (a0)) 4)))))).setCell ⟨gb145, 1, none⟩ (.int .i64 2)) = w16 at n0_ n1_ ⊢
     have BK145 := n0_
     have HB := n1_
     clear n0_ n1_
     have n0_ := mk0 (blk_drew BK145.out)
     have n1_ := mk0 (below_drew1 HB.out)
     clear BK145
     clear HB
     have BK145 := n0_
     have HB := n1_
     clear n0_ n1_
     refine start_ (n := 10) (S := fun w' => True) (ds := []) #[false, false, false, false, false, false, false, false, false, false] (by kernel_rfl) rfl rfl trivial (fun hHeld => ?_); refine with_tabW ossuarylaw7_DecodeSums.tab5 ossuarylaw7_DecodeSums.bits5 (fun HT_ HW_ => ?_)
     generalize w16.drew = w17 at BK145 HB hHeld ⊢
     refine pure_ (i := 0) (N := some 45) (v := ?_) (a' := ?_) #[true, false, false, false, false, false, false, false, false, false] rfl rfl (any_of HT_.out (by kernel_rfl)) (fun _ _ _ h => h) (Or.inl ⟨by rfl, ?_⟩) ?_ ?_
     rotate_left
     ·intro w'
      go_simp
      with_reducible rfl
     rotate_left
     ·simp only [Act.put, List.setIfInBounds_toArray, List.set_cons_zero, List.set_cons_succ, i64_w, i32_w]
      rfl
     refine pure_ (i := 1) (N := some 46) (v := ?_) (a' := ?_) #[true, true, false, false, false, false, false, false, false, false] rfl rfl (any_of HT_.out (by kernel_rfl)) (fun _ _ _ h => h) (Or.inl ⟨by rfl, ?_⟩) ?_ ?_
     rotate_left
     ·intro w'
      go_simp
      with_reducible rfl
     rotate_left
     ·simp only [Act.put, List.setIfInBounds_toArray, List.set_cons_zero, List.set_cons_succ, i64_w, i32_w]
      rfl
     refine pure_ (i := 2) (N := some 47) (v := ?_) (a' := ?_) #[true, true, true, false, false, false, false, false, false, false] rfl rfl (any_of HT_.out (by kernel_rfl)) (fun _ _ _ h => h) (Or.inl ⟨by rfl, ?_⟩) ?_ ?_
     rotate_left
     ·intro w'
      go_simp
      with_reducible rfl
     rotate_left
     ·simp only [Act.put, List.setIfInBounds_toArray, List.set_cons_zero, List.set_cons_succ, i64_w, i32_w]
      rfl
     refine pure_ (i := 3) (N := some 48) (v := ?_) (a' := ?_) #[true, true, true, true, false, false, false, false, false, false] rfl rfl (any_of HT_.out (by kernel_rfl)) (fun _ _ _ h => h) (Or.inl ⟨by rfl, ?_⟩) ?_ ?_
     rotate_left
     ·intro w'
      go_simp
      with_reducible rfl
     rotate_left
     ·simp only [Act.put, List.setIfInBounds_toArray, List.set_cons_zero, List.set_cons_succ, i64_w, i32_w]
      rfl
     refine pure_ (i := 4) (N := some 49) (v := ?_) (a' := ?_) #[true, true, true, true, true, false, false, false, false, false] rfl rfl (any_of HT_.out (by kernel_rfl)) (fun _ _ _ h => h) (Or.inl ⟨by rfl, ?_⟩) ?_ ?_
     rotate_left
     ·intro w'
      go_simp
      with_reducible rfl
     rotate_left
     ·simp only [Act.put, List.setIfInBounds_toArray, List.set_cons_zero, List.set_cons_succ, i64_w, i32_w]
      rfl
     refine pure_ (i := 5) (N := some 50) (v := ?_) (a' := ?_) #[true, true, true, true, true, true, false, false, false, false] rfl rfl (any_of HT_.out (by kernel_rfl)) (fun _ _ _ h => h) (Or.inl ⟨by rfl, ?_⟩) ?_ ?_
     rotate_left
     ·intro w'
      go_simp
      with_reducible rfl
     rotate_left
     ·simp only [Act.put, List.setIfInBounds_toArray, List.set_cons_zero, List.set_cons_succ, i64_w, i32_w]
      rfl
     refine pure_ (i := 6) (N := some 51) (v := ?_) (a' := ?_) #[true, true, true, true, true, true, true, false, false, false] rfl rfl (any_of HT_.out (by kernel_rfl)) (fun _ _ _ h => h) (Or.inl ⟨by rfl, ?_⟩) ?_ ?_
     rotate_left
     ·intro w'
      go_simp
      with_reducible rfl
     rotate_left
     ·simp only [Act.put, List.setIfInBounds_toArray, List.set_cons_zero, List.set_cons_succ, i64_w, i32_w]
      rfl
     refine pure_ (i := 7) (N := some 52) (v := ?_) (a' := ?_) #[true, true, true, true, true, true, true, true, false, false] rfl rfl (any_of HT_.out (by kernel_rfl)) (fun _ _ _ h => h) (Or.inl ⟨by rfl, ?_⟩) ?_ ?_
     rotate_left
     ·intro w'
      go_simp
      with_reducible rfl
     rotate_left
     ·simp only [Act.put, List.setIfInBounds_toArray, List.set_cons_zero, List.set_cons_succ, i64_w, i32_w]
      rfl
     refine pure_ (i := 8) (N := some 53) (v := ?_) (a' := ?_) #[true, true, true, true, true, true, true, true, true, false] rfl rfl (any_of HT_.out (by kernel_rfl)) (fun _ _ _ h => h) (Or.inl ⟨by rfl, ?_⟩) ?_ ?_
     rotate_left
     ·intro w'
      go_simp
      with_reducible rfl
     rotate_left
     ·simp only [Act.put, List.setIfInBounds_toArray, List.set_cons_zero, List.set_cons_succ, i64_w, i32_w]
      rfl
     refine pure_ (i := 9) (N := some 11) (v := ?_) (a' := ?_) #[true, true, true, true, true, true, true, true, true, true] rfl rfl (any_of HT_.out (by kernel_rfl)) (fun _ _ _ h => h) (Or.inl ⟨by rfl, ?_⟩) ?_ ?_
     rotate_left
     ·intro w'
      go_simp
      with_reducible rfl
     rotate_left
     ·simp only [Act.put, List.setIfInBounds_toArray, List.set_cons_zero, List.set_cons_succ, i64_w, i32_w]
      rfl
     refine done_ (done_of HT_.out (by kernel_rfl)) ?_
     try go_wp2_with (first | ((with_reducible refine gate_dst (N := 55) rfl ?_); (try (refine gate_guard (by rfl) ?_; dsimp only)); refine Kd.R_make Kd.bool _ 4 rfl (N := 55) rfl 68 _ _ rfl ji10 rfl rfl Try.underlying68 (.bool false) 1 info4 rfl (by decide) (by omega) false (ok := fun _ => True) (okp := fun _ => True) rfl (fun _ hk => hk) trivial (of_decide_eq_true (by first | (with_reducible assumption) | assumption)) (Nat.le_trans (Nat.mul_le_mul_right _ (of_decide_eq_true (by first | (with_reducible assumption) | assumption) : ji10.toNat ≤ 281474976710656)) (by omega)) (Below.refl _ _) (Nat.le_refl _) ?_; intro v147 w18 ho19 hb hg_ hnew_; clear hg_ hnew_; (first | rw [← Ny146.out] at ho19 | (simp only [Int.reduceToNat] at ho19; rw [← Ny146.out] at ho19)); have n0_ := mk0 (Kd.R_lower ho19 (below_size (by repeat (first | (with_reducible first | exact HB.out | apply lA | apply lN | apply lD | refine lT ?_ ‹_›) | exact HB.out)))); have n1_ := mk0 (blk_below (g := gb145) (o := .cells #[.int .i64 (wrap64 (1 + (wrap64 (Int.tmod (IntKind.u64.wrap (a0)) 4)))), .int .i64 2] 51 (0, 0)) (by (with_reducible repeat (first | apply bN | apply bD | apply bA)); exact BK145.out) hb); have n2_ := mk0 (below_step (by repeat (first | (with_reducible first | exact HB.out | apply lA | apply lN | apply lD | refine lT ?_ ‹_›) | exact HB.out)) hb); clear BK145; clear HB; have HO148 := n0_; have BK145 := n1_; have HB := n2_; clear n0_ n1_ n2_; clear hb ho19))
     go_loopg [13, 14] k (fun kq v13 v14 w' => ∃ (x12_1 : List Bool) (x13_1 : Int) (x14_1 : Int), v13 = .int .i64 x13_1 ∧ v14 = .int .i64 x14_1 ∧ Aside0 (ossuarylaw7_DecodeSums.l0 kq a1 a2 a3 ji10 ji9 x12_1 x13_1 x14_1 (wrap64 (1 + (wrap64 (Int.tmod (IntKind.u64.wrap (a0)) 4)))) 2 = some r) ∧ Aside0 (kq ≤ k) ∧ Aside0 (Kd.R Kd.bool 4 w' w.heap.size (fun _ => True) v147 x12_1) ∧ Aside0 (w'.heap[gb145]? = some (.cells #[.int .i64 (wrap64 (1 + (wrap64 (Int.tmod (IntKind.u64.wrap (a0)) 4)))), .int .i64 2] 51 (0, 0))) ∧ Aside0 (Below w.heap.size w w'))
     case atStart => exact ⟨(y146), (0), (0), (by first | rfl | (simp; done) | (simp [*]; done)), (by first | rfl | (simp; done) | (simp [*]; done)), H', ⟨Nat.le_refl _⟩, ⟨by (with_reducible repeat (first | apply rA | apply rN | apply rD)); exact HO148.out⟩, ⟨by (with_reducible repeat (first | apply bN | apply bD | apply bA)); exact BK145.out⟩, ⟨by repeat (first | (with_reducible first | exact HB.out | apply lA | apply lN | apply lD | refine lT ?_ ‹_›) | exact HB.out)⟩⟩
     case round =>
      clear H'
      try clear c1
      try clear c2
      try clear p2
      try clear c5
      try clear c6
      try clear p6
      try clear c7
      try clear c7b0
      try clear c7b1
      try clear c11
      try clear c11b0
      try clear c11b1
      try clear c12
      try clear c12b0
      try clear c12b1
      try clear hcz15_0
      try clear hcz15_1
      try clear hfz15_0
      try clear hfz15_1
      obtain ⟨x12_1, x13_1, x14_1, rfl, rfl, HA, HK1, HO_12, BK145, HB⟩ := hrel
      cases gk with
      | zero => exact absurd HA.out (by simp [ossuarylaw7_DecodeSums.l0])
      | succ k1 =>
       have H := HA.out
       clear HA
       simp only [ossuarylaw7_DecodeSums.l0] at H
       by_cases c20 : x14_1 < ji10
       ·rw [if_pos c20] at H
        have c20b0 : decide (x14_1 < ji10) = true := decide_eq_true c20
        clear c20
        by_cases c21 : 0 ≤ x14_1
        ·rw [if_pos c21] at H
         have c21b0 := eq_true c21
         have c21b1 : decide (0 ≤ x14_1) = true := decide_eq_true c21
         clear c21
         obtain ⟨ji22, hji22⟩ : ∃ j_ : Int, (shr .i64 a3 x14_1) = j_ := ⟨_, rfl⟩
         replace H : (if (Go.bits .and .i64 (ji22) 1) = 1 then (if x14_1 < (x12_1.length : Int) then ((some (x12_1.set (x14_1 : Int).toNat true : List Bool)).bind fun y149 => (if rdOf false y149 x14_1 = true then (ossuarylaw7_DecodeSums.l0 k1 a1 a2 a3 ji10 ji9 y149 (wrap64 (x13_1 + 1)) (wrap64 (x14_1 + 1)) (wrap64 (1 + (wrap64 (Int.tmod (IntKind.u64.wrap (a0)) 4)))) 2) else (ossuarylaw7_DecodeSums.l0 k1 a1 a2 a3 ji10 ji9 y149 x13_1 (wrap64 (x14_1 + 1)) (wrap64 (1 + (wrap64 (Int.tmod (IntKind.u64.wrap (a0)) 4)))) 2))) else (none)) else (if x14_1 < (x12_1.length : Int) then ((some (x12_1.set (x14_1 : Int).toNat (decide ((wrap64 (ji10 - x14_1)) ≤ (wrap64 ((wrap64 (1 + (wrap64 (Int.tmod (IntKind.u64.wrap (a0)) 4)))) - x13_1)))) : List Bool)).bind fun y151 => (if rdOf false y151 x14_1 = true then (ossuarylaw7_DecodeSums.l0 k1 a1 a2 a3 ji10 ji9 y151 (wrap64 (x13_1 + 1)) (wrap64 (x14_1 + 1)) (wrap64 (1 + (wrap64 (Int.tmod (IntKind.u64.wrap (a0)) 4)))) 2) else (ossuarylaw7_DecodeSums.l0 k1 a1 a2 a3 ji10 ji9 y151 x13_1 (wrap64 (x14_1 + 1)) (wrap64 (1 + (wrap64 (Int.tmod (IntKind.u64.wrap (a0)) 4)))) 2))) else (none))) = some r := by first | (rw [hji22] at H; exact H) | (simp only [hji22] at H ⊢; exact H)
         have hji22_ : (a3 / 2 ^ min x14_1.toNat 64) = ji22 := hji22
         have hji22z : x14_1 ≤ 64 → (a3 / 2 ^ x14_1.toNat) = ji22 := shr_small hji22
         by_cases c23 : (Go.bits .and .i64 (ji22) 1) = 1
         ·rw [if_pos c23] at H
          have c23b0 : ((Go.bits .and .i64 (ji22) 1) == 1) = true := beq_iff_eq.mpr c23
          have c23b1 : ((Go.bits .and .i64 (ji22) 1) != 1) = false := bne_eq_false_iff_eq.mpr c23
          clear c23
          by_cases c24 : x14_1 < (x12_1.length : Int)
          ·rw [if_pos c24] at H
           have c24b0 : decide (x14_1 < (x12_1.length : Int)) = true := decide_eq_true c24
           clear c24
           obtain ⟨y149, hy149⟩ : ∃ y_ : List Bool, y_ = (x12_1.set (x14_1 : Int).toNat true) := ⟨_, rfl⟩
           replace H : (if rdOf false y149 x14_1 = true then (ossuarylaw7_DecodeSums.l0 k1 a1 a2 a3 ji10 ji9 y149 (wrap64 (x13_1 + 1)) (wrap64 (x14_1 + 1)) (wrap64 (1 + (wrap64 (Int.tmod (IntKind.u64.wrap (a0)) 4)))) 2) else (ossuarylaw7_DecodeSums.l0 k1 a1 a2 a3 ji10 ji9 y149 x13_1 (wrap64 (x14_1 + 1)) (wrap64 (1 + (wrap64 (Int.tmod (IntKind.u64.wrap (a0)) 4)))) 2)) = some r := by first | (rw [hy149]; with_reducible exact H) | (have H2_ := (Option.bind_some _ _).symm.trans H; rw [hy149]; with_reducible exact H2_) | (have H2_ := (Option.bind_some _ _).symm.trans H; with_reducible exact H2_) | with_reducible exact H | (rw [hy149]; exact H) | exact H
           have Ny149 := mk0 hy149
           clear hy149
           obtain ⟨bq26, hbq26⟩ : ∃ b_ : Bool, b_ = (rdOf false y149 x14_1) := ⟨_, rfl⟩
           replace H : (if bq26 = true then (ossuarylaw7_DecodeSums.l0 k1 a1 a2 a3 ji10 ji9 y149 (wrap64 (x13_1 + 1)) (wrap64 (x14_1 + 1)) (wrap64 (1 + (wrap64 (Int.tmod (IntKind.u64.wrap (a0)) 4)))) 2) else (ossuarylaw7_DecodeSums.l0 k1 a1 a2 a3 ji10 ji9 y149 x13_1 (wrap64 (x14_1 + 1)) (wrap64 (1 + (wrap64 (Int.tmod (IntKind.u64.wrap (a0)) 4)))) 2)) = some r := by rw [← hbq26] at H; exact H
           have Nbq26 := mk0 hbq26
           clear hbq26
           by_cases c27 : bq26 = true
           ·subst c27
            have H1 : (ossuarylaw7_DecodeSums.l0 k1 a1 a2 a3 ji10 ji9 y149 (wrap64 (x13_1 + 1)) (wrap64 (x14_1 + 1)) (wrap64 (1 + (wrap64 (Int.tmod (IntKind.u64.wrap (a0)) 4)))) 2) = some r := by rw [if_pos rfl] at H; exact H
            clear H
            have H := H1
            clear H1
            have H' := mk0 H
            clear H
            have p25 : 0 ≤ (x14_1 : Int) := of_decide_eq_true (by first | (with_reducible assumption) | assumption)
            have q25 : (x14_1 : Int) < ((x12_1.length : Int) : Int) := of_decide_eq_true (by first | (with_reducible assumption) | assumption)
            obtain ⟨go25, co25, eo25, gb25, gl25, cl25, HG25⟩ := Kd.R_form HO_12.out (by omega)
            (first | cases eo25 | (injection eo25 with ea_ en_ ec_; (first | subst ea_ | (injection ea_ with ea_; subst ea_)); subst ec_; clear en_))
            have GB25 := mk0 gb25
            have GG25 := mk0 HG25
            clear gb25 gl25 HG25
            obtain ⟨hx25_0, hf25_0⟩ := Kd.R_celln false HO_12.out (x14_1 : Int) p25 q25
            replace p25 := eq_true p25
            replace q25 := eq_true q25
            have HP28 := Kd.R_putg HO_12.out (x14_1 : Int) true
            go_wp2_with (first | ((with_reducible refine gate_store (t := 4) (p := 78) rfl ?_); refine store_event (t := 4) (p := 78) (v := ?vo_w29) (w1 := (wr.setCell ⟨go25, (x14_1 : Int).toNat, none⟩ (.bool true))) ?hg ?ho ?hn ?hr ?_; (case ho => rfl); (case hg => rfl); (case hn => rfl); (case hr => first | (go_simp; done) | (go_simp; rfl)); intro w29 hw; have hg : wr.grownBy w29 (some go25) := (by rw [hw]; exact HP28.2); have hp_ : Kd.R Kd.bool 4 w29 w.heap.size (fun _ => True) (.slice (some ⟨go25, 0, none⟩) x12_1.length co25) y149 := (by rw [hw, Ny149.out]; exact HP28.1); clear HP28; have n0_ := mk0 (hp_); have n1_ := mk0 (blk_grown (g := gb145) (o := .cells #[.int .i64 (wrap64 (1 + (wrap64 (Int.tmod (IntKind.u64.wrap (a0)) 4)))), .int .i64 2] 51 (0, 0)) (by (with_reducible repeat (first | apply bN | apply bD | apply bA)); exact BK145.out) hg (Kd.R_ne HO_12.out BK145.out (by decide))); have n2_ := mk0 ((by rw [hw]; exact below_set (HB.out) GB25.out : Below w.heap.size w w29)); clear HO_12; clear BK145; clear HB; have HO_12 := n0_; have BK145 := n1_; have HB := n2_; clear n0_ n1_ n2_; clear hg hw hp_; have p150 : 0 ≤ (x14_1 : Int) := of_decide_eq_true (by first | (with_reducible assumption) | assumption); have q150 : x14_1 < (y149.length : Int) := (by have h_ : (x14_1 : Int) < ((x12_1.length : Int) : Int) := of_decide_eq_true (by first | (with_reducible assumption) | assumption); first | (have e_ := (Kd.R_reads' HO_12.out).1; omega) | simpa only [Ny149.out, List.length_set] using h_); have ql150 : ((x14_1 : Int) < ((x12_1.length : Int) : Int)) = True := eq_true (of_decide_eq_true (by first | (with_reducible assumption) | assumption)); obtain ⟨ad150, e150, hx150_0⟩ := Kd.at_bool (Kd.R_reads' HO_12.out).2.2 x14_1 p150 q150; (try rw [← Nbq26.out] at hx150_0); obtain rfl : (⟨go25, 0, none⟩ : Addr) = ad150 := (by injection e150); (first | simp only [add_plain] at hx150_0 | simp only [add_at] at hx150_0 | simp only [Addr.add, Nat.zero_add] at hx150_0 | skip); replace p150 := eq_true p150; replace q150 := eq_true q150))
            go_roundg k1
            case measure => have := HK1.out; omega
            case rel => exact ⟨(y149), (wrap64 (x13_1 + 1)), (wrap64 (x14_1 + 1)), (by first | rfl | (simp; done) | (simp [*]; done)), (by first | rfl | (simp; done) | (simp [*]; done)), H', ⟨by have := HK1.out; omega⟩, ⟨by (with_reducible repeat (first | apply rA | apply rN | apply rD)); exact HO_12.out⟩, ⟨by (with_reducible repeat (first | apply bN | apply bD | apply bA)); exact BK145.out⟩, ⟨by repeat (first | (with_reducible first | exact HB.out | apply lA | apply lN | apply lD | refine lT ?_ ‹_›) | exact HB.out)⟩⟩
           ·replace c27 := Bool.eq_false_iff.mpr c27
            subst c27
            have H1 : (ossuarylaw7_DecodeSums.l0 k1 a1 a2 a3 ji10 ji9 y149 x13_1 (wrap64 (x14_1 + 1)) (wrap64 (1 + (wrap64 (Int.tmod (IntKind.u64.wrap (a0)) 4)))) 2) = some r := by rw [if_neg (show ¬ (false = true) by decide)] at H; exact H
            clear H
            have H := H1
            clear H1
            have H' := mk0 H
            clear H
            have p25 : 0 ≤ (x14_1 : Int) := of_decide_eq_true (by first | (with_reducible assumption) | assumption)
            have q25 : (x14_1 : Int) < ((x12_1.length : Int) : Int) := of_decide_eq_true (by first | (with_reducible assumption) | assumption)
            obtain ⟨go25, co25, eo25, gb25, gl25, cl25, HG25⟩ := Kd.R_form HO_12.out (by omega)
            (first | cases eo25 | (injection eo25 with ea_ en_ ec_; (first | subst ea_ | (injection ea_ with ea_; subst ea_)); subst ec_; clear en_))
            have GB25 := mk0 gb25
            have GG25 := mk0 HG25
            clear gb25 gl25 HG25
            obtain ⟨hx25_0, hf25_0⟩ := Kd.R_celln false HO_12.out (x14_1 : Int) p25 q25
            replace p25 := eq_true p25
            replace q25 := eq_true q25
            have HP30 := Kd.R_putg HO_12.out (x14_1 : Int) true
            go_wp2_with (first | ((with_reducible refine gate_store (t := 4) (p := 78) rfl ?_); refine store_event (t := 4) (p := 78) (v := ?vo_w31) (w1 := (wr.setCell ⟨go25, (x14_1 : Int).toNat, none⟩ (.bool true))) ?hg ?ho ?hn ?hr ?_; (case ho => rfl); (case hg => rfl); (case hn => rfl); (case hr => first | (go_simp; done) | (go_simp; rfl)); intro w31 hw; have hg : wr.grownBy w31 (some go25) := (by rw [hw]; exact HP30.2); have hp_ : Kd.R Kd.bool 4 w31 w.heap.size (fun _ => True) (.slice (some ⟨go25, 0, none⟩) x12_1.length co25) y149 := (by rw [hw, Ny149.out]; exact HP30.1); clear HP30; have n0_ := mk0 (hp_); have n1_ := mk0 (blk_grown (g := gb145) (o := .cells #[.int .i64 (wrap64 (1 + (wrap64 (Int.tmod (IntKind.u64.wrap (a0)) 4)))), .int .i64 2] 51 (0, 0)) (by (with_reducible repeat (first | apply bN | apply bD | apply bA)); exact BK145.out) hg (Kd.R_ne HO_12.out BK145.out (by decide))); have n2_ := mk0 ((by rw [hw]; exact below_set (HB.out) GB25.out : Below w.heap.size w w31)); clear HO_12; clear BK145; clear HB; have HO_12 := n0_; have BK145 := n1_; have HB := n2_; clear n0_ n1_ n2_; clear hg hw hp_; have p150 : 0 ≤ (x14_1 : Int) := of_decide_eq_true (by first | (with_reducible assumption) | assumption); have q150 : x14_1 < (y149.length : Int) := (by have h_ : (x14_1 : Int) < ((x12_1.length : Int) : Int) := of_decide_eq_true (by first | (with_reducible assumption) | assumption); first | (have e_ := (Kd.R_reads' HO_12.out).1; omega) | simpa only [Ny149.out, List.length_set] using h_); have ql150 : ((x14_1 : Int) < ((x12_1.length : Int) : Int)) = True := eq_true (of_decide_eq_true (by first | (with_reducible assumption) | assumption)); obtain ⟨ad150, e150, hx150_0⟩ := Kd.at_bool (Kd.R_reads' HO_12.out).2.2 x14_1 p150 q150; (try rw [← Nbq26.out] at hx150_0); obtain rfl : (⟨go25, 0, none⟩ : Addr) = ad150 := (by injection e150); (first | simp only [add_plain] at hx150_0 | simp only [add_at] at hx150_0 | simp only [Addr.add, Nat.zero_add] at hx150_0 | skip); replace p150 := eq_true p150; replace q150 := eq_true q150))
            go_roundg k1
            case measure => have := HK1.out; omega
            case rel => exact ⟨(y149), (x13_1), (wrap64 (x14_1 + 1)), (by first | rfl | (simp; done) | (simp [*]; done)), (by first | rfl | (simp; done) | (simp [*]; done)), H', ⟨by have := HK1.out; omega⟩, ⟨by (with_reducible repeat (first | apply rA | apply rN | apply rD)); exact HO_12.out⟩, ⟨by (with_reducible repeat (first | apply bN | apply bD | apply bA)); exact BK145.out⟩, ⟨by repeat (first | (with_reducible first | exact HB.out | apply lA | apply lN | apply lD | refine lT ?_ ‹_›) | exact HB.out)⟩⟩
          ·rw [if_neg c24] at H
           exact absurd H (by simp)
         ·rw [if_neg c23] at H
          have c23b0 : ((Go.bits .and .i64 (ji22) 1) == 1) = false := beq_eq_false_iff_ne.mpr c23
          have c23b1 : ((Go.bits .and .i64 (ji22) 1) != 1) = true := bne_iff_ne.mpr c23
          by_cases c32 : x14_1 < (x12_1.length : Int)
          ·rw [if_pos c32] at H
           have c32b0 : decide (x14_1 < (x12_1.length : Int)) = true := decide_eq_true c32
           clear c32
           obtain ⟨y151, hy151⟩ : ∃ y_ : List Bool, y_ = (x12_1.set (x14_1 : Int).toNat (decide ((wrap64 (ji10 - x14_1)) ≤ (wrap64 ((wrap64 (1 + (wrap64 (Int.tmod (IntKind.u64.wrap (a0)) 4)))) - x13_1))))) := ⟨_, rfl⟩
           replace H : (if rdOf false y151 x14_1 = true then (ossuarylaw7_DecodeSums.l0 k1 a1 a2 a3 ji10 ji9 y151 (wrap64 (x13_1 + 1)) (wrap64 (x14_1 + 1)) (wrap64 (1 + (wrap64 (Int.tmod (IntKind.u64.wrap (a0)) 4)))) 2) else (ossuarylaw7_DecodeSums.l0 k1 a1 a2 a3 ji10 ji9 y151 x13_1 (wrap64 (x14_1 + 1)) (wrap64 (1 + (wrap64 (Int.tmod (IntKind.u64.wrap (a0)) 4)))) 2)) = some r := by first | (rw [hy151]; with_reducible exact H) | (have H2_ := (Option.bind_some _ _).symm.trans H; rw [hy151]; with_reducible exact H2_) | (have H2_ := (Option.bind_some _ _).symm.trans H; with_reducible exact H2_) | with_reducible exact H | (rw [hy151]; exact H) | exact H
           have Ny151 := mk0 hy151
           clear hy151
           obtain ⟨bq34, hbq34⟩ : ∃ b_ : Bool, b_ = (rdOf false y151 x14_1) := ⟨_, rfl⟩
           replace H : (if bq34 = true then (ossuarylaw7_DecodeSums.l0 k1 a1 a2 a3 ji10 ji9 y151 (wrap64 (x13_1 + 1)) (wrap64 (x14_1 + 1)) (wrap64 (1 + (wrap64 (Int.tmod (IntKind.u64.wrap (a0)) 4)))) 2) else (ossuarylaw7_DecodeSums.l0 k1 a1 a2 a3 ji10 ji9 y151 x13_1 (wrap64 (x14_1 + 1)) (wrap64 (1 + (wrap64 (Int.tmod (IntKind.u64.wrap (a0)) 4)))) 2)) = some r := by rw [← hbq34] at H; exact H
           have Nbq34 := mk0 hbq34
           clear hbq34
           by_cases c35 : bq34 = true
           ·subst c35
            have H1 : (ossuarylaw7_DecodeSums.l0 k1 a1 a2 a3 ji10 ji9 y151 (wrap64 (x13_1 + 1)) (wrap64 (x14_1 + 1)) (wrap64 (1 + (wrap64 (Int.tmod (IntKind.u64.wrap (a0)) 4)))) 2) = some r := by rw [if_pos rfl] at H; exact H
            clear H
            have H := H1
            clear H1
            have H' := mk0 H
            clear H
            have hcz36_0 : wr.cell? ⟨gb145, 0, none⟩ = some (.int .i64 (wrap64 (1 + (wrap64 (Int.tmod (IntKind.u64.wrap (a0)) 4))))) := (blk_cell BK145.out 0).trans rfl
            have hcz36_1 : wr.cell? ⟨gb145, 1, none⟩ = some (.int .i64 2) := (blk_cell BK145.out 1).trans rfl
            have hfz36_0 := blk_frozen BK145.out 0
            have hfz36_1 := blk_frozen BK145.out 1
            have p33 : 0 ≤ (x14_1 : Int) := of_decide_eq_true (by first | (with_reducible assumption) | assumption)
            have q33 : (x14_1 : Int) < ((x12_1.length : Int) : Int) := of_decide_eq_true (by first | (with_reducible assumption) | assumption)
            obtain ⟨go33, co33, eo33, gb33, gl33, cl33, HG33⟩ := Kd.R_form HO_12.out (by omega)
            (first | cases eo33 | (injection eo33 with ea_ en_ ec_; (first | subst ea_ | (injection ea_ with ea_; subst ea_)); subst ec_; clear en_))
            have GB33 := mk0 gb33
            have GG33 := mk0 HG33
            clear gb33 gl33 HG33
            obtain ⟨hx33_0, hf33_0⟩ := Kd.R_celln false HO_12.out (x14_1 : Int) p33 q33
            replace p33 := eq_true p33
            replace q33 := eq_true q33
            have HP37 := Kd.R_putg HO_12.out (x14_1 : Int) (decide ((wrap64 (ji10 - x14_1)) ≤ (wrap64 ((wrap64 (1 + (wrap64 (Int.tmod (IntKind.u64.wrap (a0)) 4)))) - x13_1))))
            go_wp2_with (first | ((with_reducible refine gate_store (t := 4) (p := 78) rfl ?_); refine store_event (t := 4) (p := 78) (v := ?vo_w38) (w1 := (wr.setCell ⟨go33, (x14_1 : Int).toNat, none⟩ (.bool (decide ((wrap64 (ji10 - x14_1)) ≤ (wrap64 ((wrap64 (1 + (wrap64 (Int.tmod (IntKind.u64.wrap (a0)) 4)))) - x13_1))))))) ?hg ?ho ?hn ?hr ?_; (case ho => rfl); (case hg => rfl); (case hn => rfl); (case hr => first | (go_simp; done) | (go_simp; rfl)); intro w38 hw; have hg : wr.grownBy w38 (some go33) := (by rw [hw]; exact HP37.2); have hp_ : Kd.R Kd.bool 4 w38 w.heap.size (fun _ => True) (.slice (some ⟨go33, 0, none⟩) x12_1.length co33) y151 := (by rw [hw, Ny151.out]; exact HP37.1); clear HP37; have n0_ := mk0 (hp_); have n1_ := mk0 (blk_grown (g := gb145) (o := .cells #[.int .i64 (wrap64 (1 + (wrap64 (Int.tmod (IntKind.u64.wrap (a0)) 4)))), .int .i64 2] 51 (0, 0)) (by (with_reducible repeat (first | apply bN | apply bD | apply bA)); exact BK145.out) hg (Kd.R_ne HO_12.out BK145.out (by decide))); have n2_ := mk0 ((by rw [hw]; exact below_set (HB.out) GB33.out : Below w.heap.size w w38)); clear HO_12; clear BK145; clear HB; have HO_12 := n0_; have BK145 := n1_; have HB := n2_; clear n0_ n1_ n2_; clear hg hw hp_; have p152 : 0 ≤ (x14_1 : Int) := of_decide_eq_true (by first | (with_reducible assumption) | assumption); have q152 : x14_1 < (y151.length : Int) := (by have h_ : (x14_1 : Int) < ((x12_1.length : Int) : Int) := of_decide_eq_true (by first | (with_reducible assumption) | assumption); first | (have e_ := (Kd.R_reads' HO_12.out).1; omega) | simpa only [Ny151.out, List.length_set] using h_); have ql152 : ((x14_1 : Int) < ((x12_1.length : Int) : Int)) = True := eq_true (of_decide_eq_true (by first | (with_reducible assumption) | assumption)); obtain ⟨ad152, e152, hx152_0⟩ := Kd.at_bool (Kd.R_reads' HO_12.out).2.2 x14_1 p152 q152; (try rw [← Nbq34.out] at hx152_0); obtain rfl : (⟨go33, 0, none⟩ : Addr) = ad152 := (by injection e152); (first | simp only [add_plain] at hx152_0 | simp only [add_at] at hx152_0 | simp only [Addr.add, Nat.zero_add] at hx152_0 | skip); replace p152 := eq_true p152; replace q152 := eq_true q152))
            go_roundg k1
            case measure => have := HK1.out; omega
            case rel => exact ⟨(y151), (wrap64 (x13_1 + 1)), (wrap64 (x14_1 + 1)), (by first | rfl | (simp; done) | (simp [*]; done)), (by first | rfl | (simp; done) | (simp [*]; done)), H', ⟨by have := HK1.out; omega⟩, ⟨by (with_reducible repeat (first | apply rA | apply rN | apply rD)); exact HO_12.out⟩, ⟨by (with_reducible repeat (first | apply bN | apply bD | apply bA)); exact BK145.out⟩, ⟨by repeat (first | (with_reducible first | exact HB.out | apply lA | apply lN | apply lD | refine lT ?_ ‹_›) | exact HB.out)⟩⟩
           ·replace c35 := Bool.eq_false_iff.mpr c35
            subst c35
            have H1 : (ossuarylaw7_DecodeSums.l0 k1 a1 a2 a3 ji10 ji9 y151 x13_1 (wrap64 (x14_1 + 1)) (wrap64 (1 + (wrap64 (Int.tmod (IntKind.u64.wrap (a0)) 4)))) 2) = some r := by rw [if_neg (show ¬ (false = true) by decide)] at H; exact H
            clear H
            have H := H1
            clear H1
            have H' := mk0 H
            clear H
            have hcz39_0 : wr.cell? ⟨gb145, 0, none⟩ = some (.int .i64 (wrap64 (1 + (wrap64 (Int.tmod (IntKind.u64.wrap (a0)) 4))))) := (blk_cell BK145.out 0).trans rfl
            have hcz39_1 : wr.cell? ⟨gb145, 1, none⟩ = some (.int .i64 2) := (blk_cell BK145.out 1).trans rfl
            have hfz39_0 := blk_frozen BK145.out 0
            have hfz39_1 := blk_frozen BK145.out 1
            have p33 : 0 ≤ (x14_1 : Int) := of_decide_eq_true (by first | (with_reducible assumption) | assumption)
            have q33 : (x14_1 : Int) < ((x12_1.length : Int) : Int) := of_decide_eq_true (by first | (with_reducible assumption) | assumption)
            obtain ⟨go33, co33, eo33, gb33, gl33, cl33, HG33⟩ := Kd.R_form HO_12.out (by omega)
            (first | cases eo33 | (injection eo33 with ea_ en_ ec_; (first | subst ea_ | (injection ea_ with ea_; subst ea_)); subst ec_; clear en_))
            have GB33 := mk0 gb33
            have GG33 := mk0 HG33
            clear gb33 gl33 HG33
            obtain ⟨hx33_0, hf33_0⟩ := Kd.R_celln false HO_12.out (x14_1 : Int) p33 q33
            replace p33 := eq_true p33
            replace q33 := eq_true q33
            have HP40 := Kd.R_putg HO_12.out (x14_1 : Int) (decide ((wrap64 (ji10 - x14_1)) ≤ (wrap64 ((wrap64 (1 + (wrap64 (Int.tmod (IntKind.u64.wrap (a0)) 4)))) - x13_1))))
            go_wp2_with (first | ((with_reducible refine gate_store (t := 4) (p := 78) rfl ?_); refine store_event (t := 4) (p := 78) (v := ?vo_w41) (w1 := (wr.setCell ⟨go33, (x14_1 : Int).toNat, none⟩ (.bool (decide ((wrap64 (ji10 - x14_1)) ≤ (wrap64 ((wrap64 (1 + (wrap64 (Int.tmod (IntKind.u64.wrap (a0)) 4)))) - x13_1))))))) ?hg ?ho ?hn ?hr ?_; (case ho => rfl); (case hg => rfl); (case hn => rfl); (case hr => first | (go_simp; done) | (go_simp; rfl)); intro w41 hw; have hg : wr.grownBy w41 (some go33) := (by rw [hw]; exact HP40.2); have hp_ : Kd.R Kd.bool 4 w41 w.heap.size (fun _ => True) (.slice (some ⟨go33, 0, none⟩) x12_1.length co33) y151 := (by rw [hw, Ny151.out]; exact HP40.1); clear HP40; have n0_ := mk0 (hp_); have n1_ := mk0 (blk_grown (g := gb145) (o := .cells #[.int .i64 (wrap64 (1 + (wrap64 (Int.tmod (IntKind.u64.wrap (a0)) 4)))), .int .i64 2] 51 (0, 0)) (by (with_reducible repeat (first | apply bN | apply bD | apply bA)); exact BK145.out) hg (Kd.R_ne HO_12.out BK145.out (by decide))); have n2_ := mk0 ((by rw [hw]; exact below_set (HB.out) GB33.out : Below w.heap.size w w41)); clear HO_12; clear BK145; clear HB; have HO_12 := n0_; have BK145 := n1_; have HB := n2_; clear n0_ n1_ n2_; clear hg hw hp_; have p152 : 0 ≤ (x14_1 : Int) := of_decide_eq_true (by first | (with_reducible assumption) | assumption); have q152 : x14_1 < (y151.length : Int) := (by have h_ : (x14_1 : Int) < ((x12_1.length : Int) : Int) := of_decide_eq_true (by first | (with_reducible assumption) | assumption); first | (have e_ := (Kd.R_reads' HO_12.out).1; omega) | simpa only [Ny151.out, List.length_set] using h_); have ql152 : ((x14_1 : Int) < ((x12_1.length : Int) : Int)) = True := eq_true (of_decide_eq_true (by first | (with_reducible assumption) | assumption)); obtain ⟨ad152, e152, hx152_0⟩ := Kd.at_bool (Kd.R_reads' HO_12.out).2.2 x14_1 p152 q152; (try rw [← Nbq34.out] at hx152_0); obtain rfl : (⟨go33, 0, none⟩ : Addr) = ad152 := (by injection e152); (first | simp only [add_plain] at hx152_0 | simp only [add_at] at hx152_0 | simp only [Addr.add, Nat.zero_add] at hx152_0 | skip); replace p152 := eq_true p152; replace q152 := eq_true q152))
            go_roundg k1
            case measure => have := HK1.out; omega
            case rel => exact ⟨(y151), (x13_1), (wrap64 (x14_1 + 1)), (by first | rfl | (simp; done) | (simp [*]; done)), (by first | rfl | (simp; done) | (simp [*]; done)), H', ⟨by have := HK1.out; omega⟩, ⟨by (with_reducible repeat (first | apply rA | apply rN | apply rD)); exact HO_12.out⟩, ⟨by (with_reducible repeat (first | apply bN | apply bD | apply bA)); exact BK145.out⟩, ⟨by repeat (first | (with_reducible first | exact HB.out | apply lA | apply lN | apply lD | refine lT ?_ ‹_›) | exact HB.out)⟩⟩
          ·rw [if_neg c32] at H
           exact absurd H (by simp)
        ·rw [if_neg c21] at H
         exact absurd H (by simp)
       ·rw [if_neg c20] at H
        have c20b0 : decide (x14_1 < ji10) = false := decide_eq_false c20
        clear c20
        have H' := mk0 H
        clear H
        go_wp2
        go_loopg [15, 16, 17, 18] k1 (fun kq v15 v16 v17 v18 w' => ∃ (x15_2 : List ByteArray) (x16_2 : List ByteArray) (x17_2 : List ByteArray) (x18_2 : Int), v18 = .int .i64 x18_2 ∧ Aside0 (ossuarylaw7_DecodeSums.l1 kq a1 a2 ji10 ji9 x12_1 x15_2 x16_2 x17_2 x18_2 (wrap64 (1 + (wrap64 (Int.tmod (IntKind.u64.wrap (a0)) 4)))) 2 = some r) ∧ Aside0 (kq ≤ k1) ∧ Aside0 (Kd.R Kd.bool 4 w' w.heap.size (fun _ => True) v147 x12_1) ∧ Aside0 (Kd.R Kd.string 9 w' w.heap.size (fun k_ => some k_ ≠ (v16 : Value).ownBlock ∧ some k_ ≠ (v17 : Value).ownBlock) v15 x15_2) ∧ Aside0 (Kd.R Kd.string 9 w' w.heap.size (fun k_ => some k_ ≠ (v15 : Value).ownBlock ∧ some k_ ≠ (v17 : Value).ownBlock) v16 x16_2) ∧ Aside0 (Kd.R Kd.string 9 w' w.heap.size (fun k_ => some k_ ≠ (v15 : Value).ownBlock ∧ some k_ ≠ (v16 : Value).ownBlock) v17 x17_2) ∧ Aside0 (w'.heap[gb145]? = some (.cells #[.int .i64 (wrap64 (1 + (wrap64 (Int.tmod (IntKind.u64.wrap (a0)) 4)))), .int .i64 2] 51 (0, 0))) ∧ Aside0 (Below w.heap.size w w'))
        case atStart => exact ⟨(([] : List ByteArray)), (([] : List ByteArray)), (([] : List ByteArray)), (0), (by first | rfl | (simp; done) | (simp [*]; done)), H', ⟨Nat.le_refl _⟩, ⟨by (with_reducible repeat (first | apply rA | apply rN | apply rD)); exact HO_12.out⟩, ⟨by first | exact Kd.R_nil _ _ _ _ _ | exact Kd.N_nil _ _ _ _ _ | exact Kd.V_nil _ _ _ _ _ | exact Kd.Q_nil _ _ _ _ _ | exact Kd.S_nil _ _ _ _ _⟩, ⟨by first | exact Kd.R_nil _ _ _ _ _ | exact Kd.N_nil _ _ _ _ _ | exact Kd.V_nil _ _ _ _ _ | exact Kd.Q_nil _ _ _ _ _ | exact Kd.S_nil _ _ _ _ _⟩, ⟨by first | exact Kd.R_nil _ _ _ _ _ | exact Kd.N_nil _ _ _ _ _ | exact Kd.V_nil _ _ _ _ _ | exact Kd.Q_nil _ _ _ _ _ | exact Kd.S_nil _ _ _ _ _⟩, ⟨by (with_reducible repeat (first | apply bN | apply bD | apply bA)); exact BK145.out⟩, ⟨by repeat (first | (with_reducible first | exact HB.out | apply lA | apply lN | apply lD | refine lT ?_ ‹_›) | exact HB.out)⟩⟩
        case round =>
         clear H'
         try clear c1
         try clear p1
         try clear q1
         try clear hx1
         try clear c2
         try clear p2
         try clear q2
         try clear hx2
         try clear c3
         try clear p3
         try clear q3
         try clear hx3
         try clear c5
         try clear c6
         try clear p6
         try clear c7
         try clear c7b0
         try clear c7b1
         try clear c11
         try clear c11b0
         try clear c11b1
         try clear c12
         try clear c12b0
         try clear c12b1
         try clear p15
         try clear q15
         try clear hx15
         try clear c20
         try clear c20b0
         try clear c21
         try clear c21b0
         try clear c21b1
         try clear c23
         try clear c23b0
         try clear c23b1
         try clear c24
         try clear c24b0
         try clear p25
         try clear q25
         try clear hx25
         try clear hf25
         try clear q26
         try clear c27
         try clear c32
         try clear c32b0
         try clear p33
         try clear q33
         try clear hx33
         try clear hf33
         try clear q34
         try clear c35
         try clear hcz15_0
         try clear hcz15_1
         try clear hcz36_0
         try clear hcz36_1
         try clear hcz39_0
         try clear hcz39_1
         try clear hfz15_0
         try clear hfz15_1
         try clear hfz36_0
         try clear hfz36_1
         try clear hfz39_0
         try clear hfz39_1
         try clear hx150_0
         try clear hx152_0
         try clear hx25_0
         try clear hx33_0
         try clear p150
         try clear p152
         try clear p2
         try clear p25
         try clear p33
         try clear p6
         try clear q150
         try clear q152
         try clear q25
         try clear q33
         obtain ⟨x15_2, x16_2, x17_2, x18_2, rfl, HA, HK2, HO_12, HO_15, HO_16, HO_17, BK145, HB⟩ := hrel
         cases gk with
         | zero => exact absurd HA.out (by simp [ossuarylaw7_DecodeSums.l1])
         | succ k2 =>
          have H := HA.out
          clear HA
          simp only [ossuarylaw7_DecodeSums.l1] at H
          by_cases c42 : x18_2 < ji10
          ·rw [if_pos c42] at H
           have c42b0 : decide (x18_2 < ji10) = true := decide_eq_true c42
           clear c42
           obtain ⟨ji43, hji43⟩ : ∃ j_ : Int, (wrap64 (ji9 * x18_2)) = j_ := ⟨_, rfl⟩
           replace H : (if 0 ≤ (ji43) then (if (ji43) ≤ (wrap64 ((ji43) + ji9)) then (if (wrap64 ((ji43) + ji9)) ≤ (a1.size : Int) then (if (wrap64 ((ji43) + ji9)) ≤ (a2.size : Int) then ((GRef.ossuaryref1_Combine.f k2 (([1, 1] : List Int)) (([a1.extract ((ji43) : Int).toNat ((wrap64 ((ji43) + ji9)) : Int).toNat, a2.extract ((ji43) : Int).toNat ((wrap64 ((ji43) + ji9)) : Int).toNat] : List ByteArray))).bind fun bt159 => (if bt159.2 = 0 then (if x15_2.length < 8796093022208 then (if x16_2.length < 8796093022208 then (if x17_2.length < 8796093022208 then (ossuarylaw7_DecodeSums.l1 k2 a1 a2 ji10 ji9 x12_1 (x15_2 ++ [a1.extract ((ji43) : Int).toNat ((wrap64 ((ji43) + ji9)) : Int).toNat]) (x16_2 ++ [a2.extract ((ji43) : Int).toNat ((wrap64 ((ji43) + ji9)) : Int).toNat]) (x17_2 ++ [bt159.1]) (wrap64 (x18_2 + 1)) (wrap64 (1 + (wrap64 (Int.tmod (IntKind.u64.wrap (a0)) 4)))) 2) else (none)) else (none)) else (none)) else (some false))) else (none)) else (none)) else (none)) else (none)) = some r := by first | (rw [hji43] at H; exact H) | (simp only [hji43] at H ⊢; exact H)
           have hji43w : (IntKind.i64.wrap (ji9 * x18_2)) = ji43 := (i64_w _).trans hji43
           by_cases c44 : 0 ≤ (ji43)
           ·rw [if_pos c44] at H
            have c44b0 := eq_true c44
            have c44b1 : decide (0 ≤ (ji43)) = true := decide_eq_true c44
            clear c44
            by_cases c45 : (ji43) ≤ (wrap64 ((ji43) + ji9))
            ·rw [if_pos c45] at H
             have c45b0 := eq_true c45
             have c45b1 : decide ((ji43) ≤ (wrap64 ((ji43) + ji9))) = true := decide_eq_true c45
             by_cases c46 : (wrap64 ((ji43) + ji9)) ≤ (a1.size : Int)
             ·rw [if_pos c46] at H
              have c46b0 := eq_true c46
              have c46b1 : decide ((wrap64 ((ji43) + ji9)) ≤ (a1.size : Int)) = true := decide_eq_true c46
              have c47b0 := eq_true (of_decide_eq_true (by first | (with_reducible assumption) | assumption) : 0 ≤ (ji43))
              have c48b0 := eq_true (of_decide_eq_true (by first | (with_reducible assumption) | assumption) : (ji43) ≤ (wrap64 ((ji43) + ji9)))
              by_cases c49 : (wrap64 ((ji43) + ji9)) ≤ (a2.size : Int)
              ·rw [if_pos c49] at H
               have c49b0 := eq_true c49
               have c49b1 : decide ((wrap64 ((ji43) + ji9)) ≤ (a2.size : Int)) = true := decide_eq_true c49
               obtain ⟨y153, hy153⟩ : ∃ y_ : List Int, y_ = (([1, 1] : List Int)) := ⟨_, rfl⟩
               replace H : ((GRef.ossuaryref1_Combine.f k2 y153 (([a1.extract ((ji43) : Int).toNat ((wrap64 ((ji43) + ji9)) : Int).toNat, a2.extract ((ji43) : Int).toNat ((wrap64 ((ji43) + ji9)) : Int).toNat] : List ByteArray))).bind fun bt159 => (if bt159.2 = 0 then (if x15_2.length < 8796093022208 then (if x16_2.length < 8796093022208 then (if x17_2.length < 8796093022208 then (ossuarylaw7_DecodeSums.l1 k2 a1 a2 ji10 ji9 x12_1 (x15_2 ++ [a1.extract ((ji43) : Int).toNat ((wrap64 ((ji43) + ji9)) : Int).toNat]) (x16_2 ++ [a2.extract ((ji43) : Int).toNat ((wrap64 ((ji43) + ji9)) : Int).toNat]) (x17_2 ++ [bt159.1]) (wrap64 (x18_2 + 1)) (wrap64 (1 + (wrap64 (Int.tmod (IntKind.u64.wrap (a0)) 4)))) 2) else (none)) else (none)) else (none)) else (some false))) = some r := by first | (rw [hy153]; with_reducible exact H) | (have H2_ := (Option.bind_some _ _).symm.trans H; rw [hy153]; with_reducible exact H2_) | (have H2_ := (Option.bind_some _ _).symm.trans H; with_reducible exact H2_) | with_reducible exact H | (rw [hy153]; exact H) | exact H
               have Ny153 := mk0 hy153
               clear hy153
               obtain ⟨y156, hy156⟩ : ∃ y_ : List ByteArray, y_ = (([a1.extract ((ji43) : Int).toNat ((wrap64 ((ji43) + ji9)) : Int).toNat, a2.extract ((ji43) : Int).toNat ((wrap64 ((ji43) + ji9)) : Int).toNat] : List ByteArray)) := ⟨_, rfl⟩
               replace H : ((GRef.ossuaryref1_Combine.f k2 y153 y156).bind fun bt159 => (if bt159.2 = 0 then (if x15_2.length < 8796093022208 then (if x16_2.length < 8796093022208 then (if x17_2.length < 8796093022208 then (ossuarylaw7_DecodeSums.l1 k2 a1 a2 ji10 ji9 x12_1 (x15_2 ++ [a1.extract ((ji43) : Int).toNat ((wrap64 ((ji43) + ji9)) : Int).toNat]) (x16_2 ++ [a2.extract ((ji43) : Int).toNat ((wrap64 ((ji43) + ji9)) : Int).toNat]) (x17_2 ++ [bt159.1]) (wrap64 (x18_2 + 1)) (wrap64 (1 + (wrap64 (Int.tmod (IntKind.u64.wrap (a0)) 4)))) 2) else (none)) else (none)) else (none)) else (some false))) = some r := by first | (rw [hy156]; with_reducible exact H) | (have H2_ := (Option.bind_some _ _).symm.trans H; rw [hy156]; with_reducible exact H2_) | (have H2_ := (Option.bind_some _ _).symm.trans H; with_reducible exact H2_) | with_reducible exact H | (rw [hy156]; exact H) | exact H
               have Ny156 := mk0 hy156
               clear hy156
               replace H := Option.bind_eq_some_iff.mp H
               obtain ⟨⟨t159, t160⟩, A500, H⟩ := H
               replace H : (if t160 = 0 then (if x15_2.length < 8796093022208 then (if x16_2.length < 8796093022208 then (if x17_2.length < 8796093022208 then (ossuarylaw7_DecodeSums.l1 k2 a1 a2 ji10 ji9 x12_1 (x15_2 ++ [a1.extract ((ji43) : Int).toNat ((wrap64 ((ji43) + ji9)) : Int).toNat]) (x16_2 ++ [a2.extract ((ji43) : Int).toNat ((wrap64 ((ji43) + ji9)) : Int).toNat]) (x17_2 ++ [t159]) (wrap64 (x18_2 + 1)) (wrap64 (1 + (wrap64 (Int.tmod (IntKind.u64.wrap (a0)) 4)))) 2) else (none)) else (none)) else (none)) else (some false)) = some r := H
               have A50 := mk0 A500
               clear A500
               by_cases c51 : t160 = 0
               ·rw [if_pos c51] at H
                have c51b0 : (t160 == 0) = true := beq_iff_eq.mpr c51
                have c51b1 : (t160 != 0) = false := bne_eq_false_iff_eq.mpr c51
                clear c51
                by_cases c52 : x15_2.length < 8796093022208
                ·rw [if_pos c52] at H
                 have LMc52 := mk0 c52
                 clear c52
                 obtain ⟨y161, hy161⟩ : ∃ y_ : List ByteArray, y_ = (x15_2 ++ [a1.extract ((ji43) : Int).toNat ((wrap64 ((ji43) + ji9)) : Int).toNat]) := ⟨_, rfl⟩
                 replace H : (if x16_2.length < 8796093022208 then (if x17_2.length < 8796093022208 then (ossuarylaw7_DecodeSums.l1 k2 a1 a2 ji10 ji9 x12_1 y161 (x16_2 ++ [a2.extract ((ji43) : Int).toNat ((wrap64 ((ji43) + ji9)) : Int).toNat]) (x17_2 ++ [t159]) (wrap64 (x18_2 + 1)) (wrap64 (1 + (wrap64 (Int.tmod (IntKind.u64.wrap (a0)) 4)))) 2) else (none)) else (none)) = some r := by first | (rw [hy161]; with_reducible exact H) | (have H2_ := (Option.bind_some _ _).symm.trans H; rw [hy161]; with_reducible exact H2_) | (have H2_ := (Option.bind_some _ _).symm.trans H; with_reducible exact H2_) | with_reducible exact H | (rw [hy161]; exact H) | exact H
                 have Ny161 := mk0 hy161
                 clear hy161
                 by_cases c53 : x16_2.length < 8796093022208
                 ·rw [if_pos c53] at H
                  have LMc53 := mk0 c53
                  clear c53
                  obtain ⟨y164, hy164⟩ : ∃ y_ : List ByteArray, y_ = (x16_2 ++ [a2.extract ((ji43) : Int).toNat ((wrap64 ((ji43) + ji9)) : Int).toNat]) := ⟨_, rfl⟩
                  replace H : (if x17_2.length < 8796093022208 then (ossuarylaw7_DecodeSums.l1 k2 a1 a2 ji10 ji9 x12_1 y161 y164 (x17_2 ++ [t159]) (wrap64 (x18_2 + 1)) (wrap64 (1 + (wrap64 (Int.tmod (IntKind.u64.wrap (a0)) 4)))) 2) else (none)) = some r := by first | (rw [hy164]; with_reducible exact H) | (have H2_ := (Option.bind_some _ _).symm.trans H; rw [hy164]; with_reducible exact H2_) | (have H2_ := (Option.bind_some _ _).symm.trans H; with_reducible exact H2_) | with_reducible exact H | (rw [hy164]; exact H) | exact H
                  have Ny164 := mk0 hy164
                  clear hy164
                  by_cases c54 : x17_2.length < 8796093022208
                  ·rw [if_pos c54] at H
                   have LMc54 := mk0 c54
                   clear c54
                   obtain ⟨y167, hy167⟩ : ∃ y_ : List ByteArray, y_ = (x17_2 ++ [t159]) := ⟨_, rfl⟩
                   replace H : (ossuarylaw7_DecodeSums.l1 k2 a1 a2 ji10 ji9 x12_1 y161 y164 y167 (wrap64 (x18_2 + 1)) (wrap64 (1 + (wrap64 (Int.tmod (IntKind.u64.wrap (a0)) 4)))) 2) = some r := by first | (rw [hy167]; with_reducible exact H) | (have H2_ := (Option.bind_some _ _).symm.trans H; rw [hy167]; with_reducible exact H2_) | (have H2_ := (Option.bind_some _ _).symm.trans H; with_reducible exact H2_) | with_reducible exact H | (rw [hy167]; exact H) | exact H
                   have Ny167 := mk0 hy167
                   clear hy167
                   have H' := mk0 H
                   clear H
                   try go_wp2
                   have n0_ := mk0 (Kd.R_drew HO_12.out)
                   have n1_ := mk0 (Kd.R_drew HO_15.out)
                   have n2_ := mk0 (Kd.R_drew HO_16.out)
                   have n3_ := mk0 (Kd.R_drew HO_17.out)
                   have n4_ := mk0 (blk_drew BK145.out)
                   have n5_ := mk0 (below_drew1 HB.out)
                   clear HO_12
                   clear HO_15
                   clear HO_16
                   clear HO_17
                   clear BK145
                   clear HB
                   have HO_12 := n0_
                   have HO_15 := n1_
                   have HO_16 := n2_
                   have HO_17 := n3_
                   have BK145 := n4_
                   have HB := n5_
                   clear n0_ n1_ n2_ n3_ n4_ n5_
                   refine start_ (n := 22) (S := fun w' => True) (ds := []) #[false, false, false, false, false, false, false, false, false, false, false, false, false, false, false, false, false, false, false, false, false, false] (by kernel_rfl) rfl rfl trivial (fun hHeld => ?_); refine with_tabW ossuarylaw7_DecodeSums.tab18 ossuarylaw7_DecodeSums.bits18 (fun HT_ HW_ => ?_)
                   generalize wr.drew = w55 at HO_12 HO_15 HO_16 HO_17 BK145 HB hHeld ⊢
                   refine pure_ (i := 0) (N := some 90) (v := ?_) (a' := ?_) #[true, false, false, false, false, false, false, false, false, false, false, false, false, false, false, false, false, false, false, false, false, false] rfl rfl (any_of HT_.out (by kernel_rfl)) (fun _ _ _ h => h) (Or.inl ⟨by rfl, ?_⟩) ?_ ?_
                   rotate_left
                   ·intro w'
                    go_simp
                    with_reducible rfl
                   rotate_left
                   ·simp only [Act.put, List.setIfInBounds_toArray, List.set_cons_zero, List.set_cons_succ, i64_w, i32_w]
                    rfl
                   refine pure_ (i := 1) (N := some 91) (v := ?_) (a' := ?_) #[true, true, false, false, false, false, false, false, false, false, false, false, false, false, false, false, false, false, false, false, false, false] rfl rfl (any_of HT_.out (by kernel_rfl)) (fun _ _ _ h => h) (Or.inl ⟨by rfl, ?_⟩) ?_ ?_
                   rotate_left
                   ·intro w'
                    go_simp
                    with_reducible rfl
                   rotate_left
                   ·simp only [Act.put, List.setIfInBounds_toArray, List.set_cons_zero, List.set_cons_succ, i64_w, i32_w]
                    rfl
                   refine pure_ (i := 2) (N := some 92) (v := ?_) (a' := ?_) #[true, true, true, false, false, false, false, false, false, false, false, false, false, false, false, false, false, false, false, false, false, false] rfl rfl (any_of HT_.out (by kernel_rfl)) (fun _ _ _ h => h) (Or.inl ⟨by rfl, ?_⟩) ?_ ?_
                   rotate_left
                   ·intro w'
                    go_simp
                    with_reducible rfl
                   rotate_left
                   ·simp only [Act.put, List.setIfInBounds_toArray, List.set_cons_zero, List.set_cons_succ, i64_w, i32_w]
                    rfl
                   refine pure_ (i := 3) (N := some 93) (v := ?_) (a' := ?_) #[true, true, true, true, false, false, false, false, false, false, false, false, false, false, false, false, false, false, false, false, false, false] rfl rfl (any_of HT_.out (by kernel_rfl)) (fun _ _ _ h => h) (Or.inl ⟨by rfl, ?_⟩) ?_ ?_
                   rotate_left
                   ·intro w'
                    go_simp
                    with_reducible rfl
                   rotate_left
                   ·simp only [Act.put, List.setIfInBounds_toArray, List.set_cons_zero, List.set_cons_succ, i64_w, i32_w]
                    rfl
                   refine pure_ (i := 4) (N := some 94) (v := ?_) (a' := ?_) #[true, true, true, true, true, false, false, false, false, false, false, false, false, false, false, false, false, false, false, false, false, false] rfl rfl (any_of HT_.out (by kernel_rfl)) (fun _ _ _ h => h) (Or.inl ⟨by rfl, ?_⟩) ?_ ?_
                   rotate_left
                   ·intro w'
                    go_simp
                    with_reducible rfl
                   rotate_left
                   ·simp only [Act.put, List.setIfInBounds_toArray, List.set_cons_zero, List.set_cons_succ, i64_w, i32_w]
                    rfl
                   refine pure_ (i := 5) (N := some 95) (v := ?_) (a' := ?_) #[true, true, true, true, true, true, false, false, false, false, false, false, false, false, false, false, false, false, false, false, false, false] rfl rfl (any_of HT_.out (by kernel_rfl)) (fun _ _ _ h => h) (Or.inl ⟨by rfl, ?_⟩) ?_ ?_
                   rotate_left
                   ·intro w'
                    go_simp
                    with_reducible rfl
                   rotate_left
                   ·simp only [Act.put, List.setIfInBounds_toArray, List.set_cons_zero, List.set_cons_succ, i64_w, i32_w]
                    rfl
                   refine pure_ (i := 6) (N := some 96) (v := ?_) (a' := ?_) #[true, true, true, true, true, true, true, false, false, false, false, false, false, false, false, false, false, false, false, false, false, false] rfl rfl (any_of HT_.out (by kernel_rfl)) (fun _ _ _ h => h) (Or.inl ⟨by rfl, ?_⟩) ?_ ?_
                   rotate_left
                   ·intro w'
                    go_simp
                    with_reducible rfl
                   rotate_left
                   ·simp only [Act.put, List.setIfInBounds_toArray, List.set_cons_zero, List.set_cons_succ, i64_w, i32_w]
                    rfl
                   refine pure_ (i := 7) (N := some 97) (v := ?_) (a' := ?_) #[true, true, true, true, true, true, true, true, false, false, false, false, false, false, false, false, false, false, false, false, false, false] rfl rfl (any_of HT_.out (by kernel_rfl)) (fun _ _ _ h => h) (Or.inl ⟨by rfl, ?_⟩) ?_ ?_
                   rotate_left
                   ·intro w'
                    go_simp
                    with_reducible rfl
                   rotate_left
                   ·simp only [Act.put, List.setIfInBounds_toArray, List.set_cons_zero, List.set_cons_succ, i64_w, i32_w]
                    rfl
                   refine pure_ (i := 8) (N := some 98) (v := ?_) (a' := ?_) #[true, true, true, true, true, true, true, true, true, false, false, false, false, false, false, false, false, false, false, false, false, false] rfl rfl (any_of HT_.out (by kernel_rfl)) (fun _ _ _ h => h) (Or.inl ⟨by rfl, ?_⟩) ?_ ?_
                   rotate_left
                   ·intro w'
                    go_simp
                    with_reducible rfl
                   rotate_left
                   ·simp only [Act.put, List.setIfInBounds_toArray, List.set_cons_zero, List.set_cons_succ, i64_w, i32_w]
                    rfl
                   refine pure_ (i := 9) (N := some 99) (v := ?_) (a' := ?_) #[true, true, true, true, true, true, true, true, true, true, false, false, false, false, false, false, false, false, false, false, false, false] rfl rfl (any_of HT_.out (by kernel_rfl)) (fun _ _ _ h => h) (Or.inl ⟨by rfl, ?_⟩) ?_ ?_
                   rotate_left
                   ·intro w'
                    go_simp
                    with_reducible rfl
                   rotate_left
                   ·simp only [Act.put, List.setIfInBounds_toArray, List.set_cons_zero, List.set_cons_succ, i64_w, i32_w]
                    rfl
                   refine pure_ (i := 10) (N := some 100) (v := ?_) (a' := ?_) #[true, true, true, true, true, true, true, true, true, true, true, false, false, false, false, false, false, false, false, false, false, false] rfl rfl (any_of HT_.out (by kernel_rfl)) (fun _ _ _ h => h) (Or.inl ⟨by rfl, ?_⟩) ?_ ?_
                   rotate_left
                   ·intro w'
                    go_simp
                    with_reducible rfl
                   rotate_left
                   ·simp only [Act.put, List.setIfInBounds_toArray, List.set_cons_zero, List.set_cons_succ, i64_w, i32_w]
                    rfl
                   refine pure_ (i := 11) (N := some 101) (v := ?_) (a' := ?_) #[true, true, true, true, true, true, true, true, true, true, true, true, false, false, false, false, false, false, false, false, false, false] rfl rfl (any_of HT_.out (by kernel_rfl)) (fun _ _ _ h => h) (Or.inl ⟨by rfl, ?_⟩) ?_ ?_
                   rotate_left
                   ·intro w'
                    go_simp
                    with_reducible rfl
                   rotate_left
                   ·simp only [Act.put, List.setIfInBounds_toArray, List.set_cons_zero, List.set_cons_succ, i64_w, i32_w]
                    rfl
                   refine pure_ (i := 12) (N := some 102) (v := ?_) (a' := ?_) #[true, true, true, true, true, true, true, true, true, true, true, true, true, false, false, false, false, false, false, false, false, false] rfl rfl (any_of HT_.out (by kernel_rfl)) (fun _ _ _ h => h) (Or.inl ⟨by rfl, ?_⟩) ?_ ?_
                   rotate_left
                   ·intro w'
                    go_simp
                    with_reducible rfl
                   rotate_left
                   ·simp only [Act.put, List.setIfInBounds_toArray, List.set_cons_zero, List.set_cons_succ, i64_w, i32_w]
                    rfl
                   refine pure_ (i := 13) (N := some 103) (v := ?_) (a' := ?_) #[true, true, true, true, true, true, true, true, true, true, true, true, true, true, false, false, false, false, false, false, false, false] rfl rfl (any_of HT_.out (by kernel_rfl)) (fun _ _ _ h => h) (Or.inl ⟨by rfl, ?_⟩) ?_ ?_
                   rotate_left
                   ·intro w'
                    go_simp
                    with_reducible rfl
                   rotate_left
                   ·simp only [Act.put, List.setIfInBounds_toArray, List.set_cons_zero, List.set_cons_succ, i64_w, i32_w]
                    rfl
                   refine pure_ (i := 14) (N := some 104) (v := ?_) (a' := ?_) #[true, true, true, true, true, true, true, true, true, true, true, true, true, true, true, false, false, false, false, false, false, false] rfl rfl (any_of HT_.out (by kernel_rfl)) (fun _ _ _ h => h) (Or.inl ⟨by rfl, ?_⟩) ?_ ?_
                   rotate_left
                   ·intro w'
                    go_simp
                    with_reducible rfl
                   rotate_left
                   ·simp only [Act.put, List.setIfInBounds_toArray, List.set_cons_zero, List.set_cons_succ, i64_w, i32_w]
                    rfl
                   refine pure_ (i := 15) (N := some 105) (v := ?_) (a' := ?_) #[true, true, true, true, true, true, true, true, true, true, true, true, true, true, true, true, false, false, false, false, false, false] rfl rfl (any_of HT_.out (by kernel_rfl)) (fun _ _ _ h => h) (Or.inl ⟨by rfl, ?_⟩) ?_ ?_
                   rotate_left
                   ·intro w'
                    go_simp
                    with_reducible rfl
                   rotate_left
                   ·simp only [Act.put, List.setIfInBounds_toArray, List.set_cons_zero, List.set_cons_succ, i64_w, i32_w]
                    rfl
                   refine pure_ (i := 16) (N := some 106) (v := ?_) (a' := ?_) #[true, true, true, true, true, true, true, true, true, true, true, true, true, true, true, true, true, false, false, false, false, false] rfl rfl (any_of HT_.out (by kernel_rfl)) (fun _ _ _ h => h) (Or.inl ⟨by rfl, ?_⟩) ?_ ?_
                   rotate_left
                   ·intro w'
                    go_simp
                    with_reducible rfl
                   rotate_left
                   ·simp only [Act.put, List.setIfInBounds_toArray, List.set_cons_zero, List.set_cons_succ, i64_w, i32_w]
                    rfl
                   refine pure_ (i := 17) (N := some 107) (v := ?_) (a' := ?_) #[true, true, true, true, true, true, true, true, true, true, true, true, true, true, true, true, true, true, false, false, false, false] rfl rfl (any_of HT_.out (by kernel_rfl)) (fun _ _ _ h => h) (Or.inl ⟨by rfl, ?_⟩) ?_ ?_
                   rotate_left
                   ·intro w'
                    go_simp
                    with_reducible rfl
                   rotate_left
                   ·simp only [Act.put, List.setIfInBounds_toArray, List.set_cons_zero, List.set_cons_succ, i64_w, i32_w]
                    rfl
                   refine pure_ (i := 18) (N := some 108) (v := ?_) (a' := ?_) #[true, true, true, true, true, true, true, true, true, true, true, true, true, true, true, true, true, true, true, false, false, false] rfl rfl (any_of HT_.out (by kernel_rfl)) (fun _ _ _ h => h) (Or.inl ⟨by rfl, ?_⟩) ?_ ?_
                   rotate_left
                   ·intro w'
                    go_simp
                    with_reducible rfl
                   rotate_left
                   ·simp only [Act.put, List.setIfInBounds_toArray, List.set_cons_zero, List.set_cons_succ, i64_w, i32_w]
                    rfl
                   refine pure_ (i := 19) (N := some 109) (v := ?_) (a' := ?_) #[true, true, true, true, true, true, true, true, true, true, true, true, true, true, true, true, true, true, true, true, false, false] rfl rfl (any_of HT_.out (by kernel_rfl)) (fun _ _ _ h => h) (Or.inl ⟨by rfl, ?_⟩) ?_ ?_
                   rotate_left
                   ·intro w'
                    go_simp
                    with_reducible rfl
                   rotate_left
                   ·simp only [Act.put, List.setIfInBounds_toArray, List.set_cons_zero, List.set_cons_succ, i64_w, i32_w]
                    rfl
                   refine pure_ (i := 20) (N := some 19) (v := ?_) (a' := ?_) #[true, true, true, true, true, true, true, true, true, true, true, true, true, true, true, true, true, true, true, true, true, false] rfl rfl (any_of HT_.out (by kernel_rfl)) (fun _ _ _ h => h) (Or.inl ⟨by rfl, ?_⟩) ?_ ?_
                   rotate_left
                   ·intro w'
                    go_simp
                    with_reducible rfl
                   rotate_left
                   ·simp only [Act.put, List.setIfInBounds_toArray, List.set_cons_zero, List.set_cons_succ, i64_w, i32_w]
                    rfl
                   refine pure_ (i := 21) (N := some 20) (v := ?_) (a' := ?_) #[true, true, true, true, true, true, true, true, true, true, true, true, true, true, true, true, true, true, true, true, true, true] rfl rfl (any_of HT_.out (by kernel_rfl)) (fun _ _ _ h => h) (Or.inl ⟨by rfl, ?_⟩) ?_ ?_
                   rotate_left
                   ·intro w'
                    go_simp
                    with_reducible rfl
                   rotate_left
                   ·simp only [Act.put, List.setIfInBounds_toArray, List.set_cons_zero, List.set_cons_succ, i64_w, i32_w]
                    rfl
                   refine done_ (done_of HT_.out (by kernel_rfl)) ?_
                   try go_wp2_with (first | ((with_reducible refine gate_dst (N := 111) rfl ?_); (try (refine gate_guard (by rfl) ?_; dsimp only)); refine Kd.R_lit (Kd.int .i64) _ 3 ?hg (N := 111) ?hd (xs := ([1, 1] : List Int)) (inner := [.int .i64 1, .int .i64 1]) (ok := fun _ => True) (okp := fun _ => True) ?hr ?hp (fun _ hk => hk) trivial (Below.refl _ _) (Nat.le_refl _) (by simp) ?_; (case hd => rfl); (case hg => rfl); (case hr => first | (go_simp; done) | (go_simp; rfl)); (case hp => exact (Reps.one (show Kd.M (Kd.int .i64) _ _ _ 1 [.int .i64 1] from rfl) (Reps.one (show Kd.M (Kd.int .i64) _ _ _ 1 [.int .i64 1] from rfl) (Reps.none _ _)))); intro v154 w56 ho57 hb hg_ hnew_; clear hg_ hnew_; (first | rw [← Ny153.out] at ho57 | (simp only [Int.reduceToNat] at ho57; rw [← Ny153.out] at ho57)); have n0_ := mk0 (Kd.R_below (by (with_reducible repeat (first | apply rA | apply rN | apply rD)); exact HO_12.out) hb); have n1_ := mk0 (Kd.R_below (by (with_reducible repeat (first | apply rA | apply rN | apply rD)); exact HO_15.out) hb); have n2_ := mk0 (Kd.R_below (by (with_reducible repeat (first | apply rA | apply rN | apply rD)); exact HO_16.out) hb); have n3_ := mk0 (Kd.R_below (by (with_reducible repeat (first | apply rA | apply rN | apply rD)); exact HO_17.out) hb); have n4_ := mk0 (Kd.R_lower ho57 (below_size (by repeat (first | (with_reducible first | exact HB.out | apply lA | apply lN | apply lD | refine lT ?_ ‹_›) | exact HB.out)))); have n5_ := mk0 (blk_below (g := gb145) (o := .cells #[.int .i64 (wrap64 (1 + (wrap64 (Int.tmod (IntKind.u64.wrap (a0)) 4)))), .int .i64 2] 51 (0, 0)) (by (with_reducible repeat (first | apply bN | apply bD | apply bA)); exact BK145.out) hb); have n6_ := mk0 (below_step (by repeat (first | (with_reducible first | exact HB.out | apply lA | apply lN | apply lD | refine lT ?_ ‹_›) | exact HB.out)) hb); clear HO_12; clear HO_15; clear HO_16; clear HO_17; clear BK145; clear HB; have HO_12 := n0_; have HO_15 := n1_; have HO_16 := n2_; have HO_17 := n3_; have HO155 := n4_; have BK145 := n5_; have HB := n6_; clear n0_ n1_ n2_ n3_ n4_ n5_ n6_; clear hb ho57) | ((with_reducible refine gate_dst (N := 114) rfl ?_); (try (refine gate_guard (by rfl) ?_; dsimp only)); refine Kd.R_lit Kd.string _ 9 ?hg (N := 114) ?hd (xs := ([a1.extract ((ji43) : Int).toNat ((wrap64 ((ji43) + ji9)) : Int).toNat, a2.extract ((ji43) : Int).toNat ((wrap64 ((ji43) + ji9)) : Int).toNat] : List ByteArray)) (inner := [.string (a1.extract ((ji43) : Int).toNat ((wrap64 ((ji43) + ji9)) : Int).toNat), .string (a2.extract ((ji43) : Int).toNat ((wrap64 ((ji43) + ji9)) : Int).toNat)]) (ok := fun _ => True) (okp := fun _ => True) ?hr ?hp (fun _ hk => hk) trivial (Below.refl _ _) (Nat.le_refl _) (by simp) ?_; (case hd => rfl); (case hg => rfl); (case hr => first | (go_simp; done) | (go_simp; rfl)); (case hp => exact (Reps.one (show Kd.M Kd.string _ _ _ (a1.extract ((ji43) : Int).toNat ((wrap64 ((ji43) + ji9)) : Int).toNat) [.string (a1.extract ((ji43) : Int).toNat ((wrap64 ((ji43) + ji9)) : Int).toNat)] from rfl) (Reps.one (show Kd.M Kd.string _ _ _ (a2.extract ((ji43) : Int).toNat ((wrap64 ((ji43) + ji9)) : Int).toNat) [.string (a2.extract ((ji43) : Int).toNat ((wrap64 ((ji43) + ji9)) : Int).toNat)] from rfl) (Reps.none _ _)))); intro v157 w58 ho59 hb hg_ hnew_; clear hg_ hnew_; (first | rw [← Ny156.out] at ho59 | (simp only [Int.reduceToNat] at ho59; rw [← Ny156.out] at ho59)); have n0_ := mk0 (Kd.R_below (by (with_reducible repeat (first | apply rA | apply rN | apply rD)); exact HO_12.out) hb); have n1_ := mk0 (Kd.R_elder' (by (with_reducible repeat (first | apply rA | apply rN | apply rD)); exact HO_15.out) (Kd.R_base ho59) hb); have n2_ := mk0 (Kd.R_elder' (by (with_reducible repeat (first | apply rA | apply rN | apply rD)); exact HO_16.out) (Kd.R_base ho59) hb); have n3_ := mk0 (Kd.R_elder' (by (with_reducible repeat (first | apply rA | apply rN | apply rD)); exact HO_17.out) (Kd.R_base ho59) hb); have n4_ := mk0 (Kd.R_below (by (with_reducible repeat (first | apply rA | apply rN | apply rD)); exact HO155.out) hb); have n5_ := mk0 (Kd.R_lower (Kd.R_new' (Kd.R_new' (Kd.R_new' ho59 (Kd.R_lt (by (with_reducible repeat (first | apply rA | apply rN | apply rD)); exact HO_15.out))) (Kd.R_lt (by (with_reducible repeat (first | apply rA | apply rN | apply rD)); exact HO_16.out))) (Kd.R_lt (by (with_reducible repeat (first | apply rA | apply rN | apply rD)); exact HO_17.out))) (below_size (by repeat (first | (with_reducible first | exact HB.out | apply lA | apply lN | apply lD | refine lT ?_ ‹_›) | exact HB.out)))); have n6_ := mk0 (blk_below (g := gb145) (o := .cells #[.int .i64 (wrap64 (1 + (wrap64 (Int.tmod (IntKind.u64.wrap (a0)) 4)))), .int .i64 2] 51 (0, 0)) (by (with_reducible repeat (first | apply bN | apply bD | apply bA)); exact BK145.out) hb); have n7_ := mk0 (below_step (by repeat (first | (with_reducible first | exact HB.out | apply lA | apply lN | apply lD | refine lT ?_ ‹_›) | exact HB.out)) hb); clear HO_12; clear HO_15; clear HO_16; clear HO_17; clear HO155; clear BK145; clear HB; have HO_12 := n0_; have HO_15 := n1_; have HO_16 := n2_; have HO_17 := n3_; have HO155 := n4_; have HO158 := n5_; have BK145 := n6_; have HB := n7_; clear n0_ n1_ n2_ n3_ n4_ n5_ n6_ n7_; clear hb ho59; obtain ⟨Ao60, co60, eo60⟩ := Kd.R_slice HO155.out; subst eo60; obtain ⟨Ao61, co61, eo61⟩ := Kd.R_slice HO158.out; subst eo61) | ((with_reducible refine gCa (f := 58) rfl ?_); refine goesL_ (some 115) rfl rfl Try.func58 (by kernel_rfl) rfl #[.slice Ao60 y153.length co60, .slice Ao61 y156.length co61] rfl (by (try simp only [List.map_toArray, List.map_cons, List.map_nil]); first | done | rfl | (simp only [List.length_drop, List.length_take]; rfl)) ?_; (with_reducible refine (GRef.ossuaryref1_Combine.calls k2 _ _ y153 _ _ y156 t159 t160 _ ?side1 ?side2 ?side3 ?side4 A50.out).mono ?_); (case side1 => repeat (first | exact (Kd.R_reads' HO155.out).2.2 | (with_reducible refine Kd.C_alloc ?_ _) | (with_reducible refine Kd.C_drewN ?_ _) | (with_reducible refine Kd.C_drew ?_))); (case side2 => exact (Kd.R_reads' HO155.out).2.1); (case side3 => repeat (first | exact (Kd.R_reads' HO158.out).2.2 | (with_reducible refine Kd.C_alloc ?_ _) | (with_reducible refine Kd.C_drewN ?_ _) | (with_reducible refine Kd.C_drew ?_))); (case side4 => exact (Kd.R_reads' HO158.out).2.1); rintro e w62 ⟨rfl, hb⟩; refine ⟨_, rfl, ?_⟩; have n0_ := mk0 (Kd.R_below (by (with_reducible repeat (first | apply rA | apply rN | apply rD)); exact HO_12.out) hb); have n1_ := mk0 (Kd.R_below (by (with_reducible repeat (first | apply rA | apply rN | apply rD)); exact HO_15.out) hb); have n2_ := mk0 (Kd.R_below (by (with_reducible repeat (first | apply rA | apply rN | apply rD)); exact HO_16.out) hb); have n3_ := mk0 (Kd.R_below (by (with_reducible repeat (first | apply rA | apply rN | apply rD)); exact HO_17.out) hb); have n4_ := mk0 (Kd.R_below (by (with_reducible repeat (first | apply rA | apply rN | apply rD)); exact HO155.out) hb); have n5_ := mk0 (Kd.R_below (by (with_reducible repeat (first | apply rA | apply rN | apply rD)); exact HO158.out) hb); have n6_ := mk0 (blk_below (g := gb145) (o := .cells #[.int .i64 (wrap64 (1 + (wrap64 (Int.tmod (IntKind.u64.wrap (a0)) 4)))), .int .i64 2] 51 (0, 0)) (by (with_reducible repeat (first | apply bN | apply bD | apply bA)); exact BK145.out) hb); have n7_ := mk0 (below_step (by repeat (first | (with_reducible first | exact HB.out | apply lA | apply lN | apply lD | refine lT ?_ ‹_›) | exact HB.out)) hb); clear HO_12; clear HO_15; clear HO_16; clear HO_17; clear HO155; clear HO158; clear BK145; clear HB; have HO_12 := n0_; have HO_15 := n1_; have HO_16 := n2_; have HO_17 := n3_; have HO155 := n4_; have HO158 := n5_; have BK145 := n6_; have HB := n7_; clear n0_ n1_ n2_ n3_ n4_ n5_ n6_ n7_; (try clear hb); (try clear hb2); (try clear hk); (try clear hi)) | ((with_reducible refine gBu (b := .append) (xs := #[.tmp 120, .tmp 122]) rfl ?_); (try (refine gate_guard (by rfl) ?_; dsimp only)); at_builtin; refine Kd.R_append Kd.string (w0 := w) w.heap.size rfl (.tmp 120) (.tmp 122) 58 9 (.string ⟨#[]⟩) 16 rfl Try.underlying58 info9 rfl (by decide) (by omega) u15 x15_2 (a1.extract ((ji43) : Int).toNat ((wrap64 ((ji43) + ji9)) : Int).toNat) [.string (a1.extract ((ji43) : Int).toNat ((wrap64 ((ji43) + ji9)) : Int).toNat)] (fun k_ => some k_ ≠ (u16 : Value).ownBlock ∧ some k_ ≠ (u17 : Value).ownBlock ∧ some k_ ≠ (.slice Ao61 y156.length co61 : Value).ownBlock) (fun _ => False) rfl rfl ?aP (fun _ hk => hk.elim) ?aF ?aO ?aB ?aS ?aL ?_; (case aP => exact rfl); (case aB => exact (by repeat (first | (with_reducible first | exact HB.out | apply lA | apply lN | apply lD | refine lT ?_ ‹_›) | exact HB.out))); (case aF => exact (fun k_ hk => ⟨Kd.fresh' (Kd.R_lt (by (with_reducible repeat (first | apply rA | apply rN | apply rD)); exact HO_16.out)) k_ hk, Kd.fresh' (Kd.R_lt (by (with_reducible repeat (first | apply rA | apply rN | apply rD)); exact HO_17.out)) k_ hk, Kd.fresh' (Kd.R_lt (by (with_reducible repeat (first | apply rA | apply rN | apply rD)); exact HO158.out)) k_ hk⟩)); (case aO => exact (by (with_reducible repeat (first | apply rA | apply rN | apply rD)); exact Kd.R_mono HO_15.out (fun _ hk => ⟨hk.1.1, ⟨hk.1.2, hk.2⟩⟩))); (case aS => exact (below_size (by repeat (first | (with_reducible first | exact HB.out | apply lA | apply lN | apply lD | refine lT ?_ ‹_›) | exact HB.out)))); (case aL => have := LMc52.out; omega); intro v162 w63 ho hb hg hat; rw [← Ny161.out] at ho; have n0_ := mk0 (Kd.R_over' (by (with_reducible repeat (first | apply rA | apply rN | apply rD)); exact HO_12.out) (Kd.R_typed (by (with_reducible repeat (first | apply rA | apply rN | apply rD)); exact HO_15.out)) (by decide) hg); have n1_ := mk0 (Kd.R_after (ok := (fun k_ => some k_ ≠ (u17 : Value).ownBlock ∧ some k_ ≠ (.slice Ao61 y156.length co61 : Value).ownBlock)) (by (with_reducible repeat (first | apply rA | apply rN | apply rD)); exact Kd.R_mono HO_16.out (fun _ hk => ⟨⟨hk.1.2, hk.2⟩, hk.1.1⟩)) hg hat); have n2_ := mk0 (Kd.R_after (ok := (fun k_ => some k_ ≠ (u16 : Value).ownBlock ∧ some k_ ≠ (.slice Ao61 y156.length co61 : Value).ownBlock)) (by (with_reducible repeat (first | apply rA | apply rN | apply rD)); exact Kd.R_mono HO_17.out (fun _ hk => ⟨⟨hk.1.2, hk.2⟩, hk.1.1⟩)) hg hat); have n3_ := mk0 (blk_grown (g := gb145) (o := .cells #[.int .i64 (wrap64 (1 + (wrap64 (Int.tmod (IntKind.u64.wrap (a0)) 4)))), .int .i64 2] 51 (0, 0)) (by (with_reducible repeat (first | apply bN | apply bD | apply bA)); exact BK145.out) hg (Kd.R_ne HO_15.out BK145.out (by decide))); have n4_ := mk0 (Kd.R_over' (by (with_reducible repeat (first | apply rA | apply rN | apply rD)); exact HO155.out) (Kd.R_typed (by (with_reducible repeat (first | apply rA | apply rN | apply rD)); exact HO_15.out)) (by decide) hg); have n5_ := mk0 (Kd.R_after (ok := (fun k_ => some k_ ≠ (u16 : Value).ownBlock ∧ some k_ ≠ (u17 : Value).ownBlock)) (by (with_reducible repeat (first | apply rA | apply rN | apply rD)); exact Kd.R_mono HO158.out (fun _ hk => ⟨⟨hk.1.2, hk.2⟩, hk.1.1.2⟩)) hg hat); have n6_ := mk0 (hb); have n7_ := mk0 (ho); clear HO_12; clear HO_16; clear HO_17; clear BK145; clear HO155; clear HO158; clear HB; clear HO_15; have HO_12 := n0_; have HO_16 := n1_; have HO_17 := n2_; have BK145 := n3_; have HO155 := n4_; have HO158 := n5_; have HB := n6_; have HO163 := n7_; clear n0_ n1_ n2_ n3_ n4_ n5_ n6_ n7_; clear ho hb hg hat) | ((with_reducible refine gBu (b := .append) (xs := #[.tmp 124, .tmp 126]) rfl ?_); (try (refine gate_guard (by rfl) ?_; dsimp only)); at_builtin; refine Kd.R_append Kd.string (w0 := w) w.heap.size rfl (.tmp 124) (.tmp 126) 58 9 (.string ⟨#[]⟩) 16 rfl Try.underlying58 info9 rfl (by decide) (by omega) u16 x16_2 (a2.extract ((ji43) : Int).toNat ((wrap64 ((ji43) + ji9)) : Int).toNat) [.string (a2.extract ((ji43) : Int).toNat ((wrap64 ((ji43) + ji9)) : Int).toNat)] (fun k_ => some k_ ≠ (u17 : Value).ownBlock ∧ some k_ ≠ (.slice Ao61 y156.length co61 : Value).ownBlock ∧ some k_ ≠ (v162 : Value).ownBlock) (fun _ => False) rfl rfl ?aP (fun _ hk => hk.elim) ?aF ?aO ?aB ?aS ?aL ?_; (case aP => exact rfl); (case aB => exact (by repeat (first | (with_reducible first | exact HB.out | apply lA | apply lN | apply lD | refine lT ?_ ‹_›) | exact HB.out))); (case aF => exact (fun k_ hk => ⟨Kd.fresh' (Kd.R_lt (by (with_reducible repeat (first | apply rA | apply rN | apply rD)); exact HO_17.out)) k_ hk, Kd.fresh' (Kd.R_lt (by (with_reducible repeat (first | apply rA | apply rN | apply rD)); exact HO158.out)) k_ hk, Kd.fresh' (Kd.R_lt (by (with_reducible repeat (first | apply rA | apply rN | apply rD)); exact HO163.out)) k_ hk⟩)); (case aO => exact (by (with_reducible repeat (first | apply rA | apply rN | apply rD)); exact Kd.R_mono HO_16.out (fun _ hk => ⟨hk.1.1, ⟨hk.1.2, hk.2⟩⟩))); (case aS => exact (below_size (by repeat (first | (with_reducible first | exact HB.out | apply lA | apply lN | apply lD | refine lT ?_ ‹_›) | exact HB.out)))); (case aL => have := LMc53.out; omega); intro v165 w64 ho hb hg hat; rw [← Ny164.out] at ho; have n0_ := mk0 (Kd.R_over' (by (with_reducible repeat (first | apply rA | apply rN | apply rD)); exact HO_12.out) (Kd.R_typed (by (with_reducible repeat (first | apply rA | apply rN | apply rD)); exact HO_16.out)) (by decide) hg); have n1_ := mk0 (Kd.R_after (ok := (fun k_ => some k_ ≠ (.slice Ao61 y156.length co61 : Value).ownBlock ∧ some k_ ≠ (v162 : Value).ownBlock)) (by (with_reducible repeat (first | apply rA | apply rN | apply rD)); exact Kd.R_mono HO_17.out (fun _ hk => ⟨⟨hk.1.2, hk.2⟩, hk.1.1⟩)) hg hat); have n2_ := mk0 (blk_grown (g := gb145) (o := .cells #[.int .i64 (wrap64 (1 + (wrap64 (Int.tmod (IntKind.u64.wrap (a0)) 4)))), .int .i64 2] 51 (0, 0)) (by (with_reducible repeat (first | apply bN | apply bD | apply bA)); exact BK145.out) hg (Kd.R_ne HO_16.out BK145.out (by decide))); have n3_ := mk0 (Kd.R_over' (by (with_reducible repeat (first | apply rA | apply rN | apply rD)); exact HO155.out) (Kd.R_typed (by (with_reducible repeat (first | apply rA | apply rN | apply rD)); exact HO_16.out)) (by decide) hg); have n4_ := mk0 (Kd.R_after (ok := (fun k_ => some k_ ≠ (u17 : Value).ownBlock ∧ some k_ ≠ (v162 : Value).ownBlock)) (by (with_reducible repeat (first | apply rA | apply rN | apply rD)); exact Kd.R_mono HO158.out (fun _ hk => ⟨⟨hk.1.2, hk.2⟩, hk.1.1⟩)) hg hat); have n5_ := mk0 (Kd.R_after (ok := (fun k_ => some k_ ≠ (u17 : Value).ownBlock ∧ some k_ ≠ (.slice Ao61 y156.length co61 : Value).ownBlock)) (by (with_reducible repeat (first | apply rA | apply rN | apply rD)); exact Kd.R_mono HO163.out (fun _ hk => ⟨⟨hk.2.1, hk.2.2⟩, hk.1⟩)) hg hat); have n6_ := mk0 (hb); have n7_ := mk0 (ho); clear HO_12; clear HO_17; clear BK145; clear HO155; clear HO158; clear HO163; clear HB; clear HO_16; have HO_12 := n0_; have HO_17 := n1_; have BK145 := n2_; have HO155 := n3_; have HO158 := n4_; have HO163 := n5_; have HB := n6_; have HO166 := n7_; clear n0_ n1_ n2_ n3_ n4_ n5_ n6_ n7_; clear ho hb hg hat) | ((with_reducible refine gBu (b := .append) (xs := #[.tmp 128, .tmp 130]) rfl ?_); (try (refine gate_guard (by rfl) ?_; dsimp only)); at_builtin; refine Kd.R_append Kd.string (w0 := w) w.heap.size rfl (.tmp 128) (.tmp 130) 58 9 (.string ⟨#[]⟩) 16 rfl Try.underlying58 info9 rfl (by decide) (by omega) u17 x17_2 t159 [.string t159] (fun k_ => some k_ ≠ (.slice Ao61 y156.length co61 : Value).ownBlock ∧ some k_ ≠ (v162 : Value).ownBlock ∧ some k_ ≠ (v165 : Value).ownBlock) (fun _ => False) rfl rfl ?aP (fun _ hk => hk.elim) ?aF ?aO ?aB ?aS ?aL ?_; (case aP => exact rfl); (case aB => exact (by repeat (first | (with_reducible first | exact HB.out | apply lA | apply lN | apply lD | refine lT ?_ ‹_›) | exact HB.out))); (case aF => exact (fun k_ hk => ⟨Kd.fresh' (Kd.R_lt (by (with_reducible repeat (first | apply rA | apply rN | apply rD)); exact HO158.out)) k_ hk, Kd.fresh' (Kd.R_lt (by (with_reducible repeat (first | apply rA | apply rN | apply rD)); exact HO163.out)) k_ hk, Kd.fresh' (Kd.R_lt (by (with_reducible repeat (first | apply rA | apply rN | apply rD)); exact HO166.out)) k_ hk⟩)); (case aO => exact (by (with_reducible repeat (first | apply rA | apply rN | apply rD)); exact Kd.R_mono HO_17.out (fun _ hk => ⟨hk.1.1, ⟨hk.1.2, hk.2⟩⟩))); (case aS => exact (below_size (by repeat (first | (with_reducible first | exact HB.out | apply lA | apply lN | apply lD | refine lT ?_ ‹_›) | exact HB.out)))); (case aL => have := LMc54.out; omega); intro v168 w65 ho hb hg hat; rw [← Ny167.out] at ho; have n0_ := mk0 (Kd.R_over' (by (with_reducible repeat (first | apply rA | apply rN | apply rD)); exact HO_12.out) (Kd.R_typed (by (with_reducible repeat (first | apply rA | apply rN | apply rD)); exact HO_17.out)) (by decide) hg); have n1_ := mk0 (blk_grown (g := gb145) (o := .cells #[.int .i64 (wrap64 (1 + (wrap64 (Int.tmod (IntKind.u64.wrap (a0)) 4)))), .int .i64 2] 51 (0, 0)) (by (with_reducible repeat (first | apply bN | apply bD | apply bA)); exact BK145.out) hg (Kd.R_ne HO_17.out BK145.out (by decide))); have n2_ := mk0 (Kd.R_over' (by (with_reducible repeat (first | apply rA | apply rN | apply rD)); exact HO155.out) (Kd.R_typed (by (with_reducible repeat (first | apply rA | apply rN | apply rD)); exact HO_17.out)) (by decide) hg); have n3_ := mk0 (Kd.R_after (ok := (fun k_ => some k_ ≠ (v162 : Value).ownBlock ∧ some k_ ≠ (v165 : Value).ownBlock)) (by (with_reducible repeat (first | apply rA | apply rN | apply rD)); exact Kd.R_mono HO158.out (fun _ hk => ⟨⟨hk.1.2, hk.2⟩, hk.1.1⟩)) hg hat); have n4_ := mk0 (Kd.R_after (ok := (fun k_ => some k_ ≠ (.slice Ao61 y156.length co61 : Value).ownBlock ∧ some k_ ≠ (v165 : Value).ownBlock)) (by (with_reducible repeat (first | apply rA | apply rN | apply rD)); exact Kd.R_mono HO163.out (fun _ hk => ⟨⟨hk.1.2, hk.2⟩, hk.1.1⟩)) hg hat); have n5_ := mk0 (Kd.R_after (ok := (fun k_ => some k_ ≠ (.slice Ao61 y156.length co61 : Value).ownBlock ∧ some k_ ≠ (v162 : Value).ownBlock)) (by (with_reducible repeat (first | apply rA | apply rN | apply rD)); exact Kd.R_mono HO166.out (fun _ hk => ⟨⟨hk.2.1, hk.2.2⟩, hk.1⟩)) hg hat); have n6_ := mk0 (hb); have n7_ := mk0 (ho); clear HO_12; clear BK145; clear HO155; clear HO158; clear HO163; clear HO166; clear HB; clear HO_17; have HO_12 := n0_; have BK145 := n1_; have HO155 := n2_; have HO158 := n3_; have HO163 := n4_; have HO166 := n5_; have HB := n6_; have HO169 := n7_; clear n0_ n1_ n2_ n3_ n4_ n5_ n6_ n7_; clear ho hb hg hat))
                   go_roundg k2
                   case measure => have := HK1.out; have := HK2.out; omega
                   case rel => exact ⟨(y161), (y164), (y167), (wrap64 (x18_2 + 1)), (by first | rfl | (simp; done) | (simp [*]; done)), H', ⟨by have := HK1.out; have := HK2.out; omega⟩, ⟨by (with_reducible repeat (first | apply rA | apply rN | apply rD)); exact HO_12.out⟩, ⟨by (with_reducible repeat (first | apply rA | apply rN | apply rD)); exact Kd.R_mono HO163.out (fun _ hk => ⟨hk.1.2, hk.2⟩)⟩, ⟨by (with_reducible repeat (first | apply rA | apply rN | apply rD)); exact Kd.R_mono HO166.out (fun _ hk => ⟨hk.1.2, hk.2⟩)⟩, ⟨by (with_reducible repeat (first | apply rA | apply rN | apply rD)); exact Kd.R_mono HO169.out (fun _ hk => ⟨hk.2.1, hk.2.2⟩)⟩, ⟨by (with_reducible repeat (first | apply bN | apply bD | apply bA)); exact BK145.out⟩, ⟨by repeat (first | (with_reducible first | exact HB.out | apply lA | apply lN | apply lD | refine lT ?_ ‹_›) | exact HB.out)⟩⟩
                  ·rw [if_neg c54] at H
                   exact absurd H (by simp)
                 ·rw [if_neg c53] at H
                  exact absurd H (by simp)
                ·rw [if_neg c52] at H
                 exact absurd H (by simp)
               ·rw [if_neg c51] at H
                have c51b0 : (t160 == 0) = false := beq_eq_false_iff_ne.mpr c51
                have c51b1 : (t160 != 0) = true := bne_iff_ne.mpr c51
                exact absurd ((Option.some.inj H).trans HTrue.out) (by decide)
              ·rw [if_neg c49] at H
               exact absurd H (by simp)
             ·rw [if_neg c46] at H
              exact absurd H (by simp)
            ·rw [if_neg c45] at H
             exact absurd H (by simp)
           ·rw [if_neg c44] at H
            exact absurd H (by simp)
          ·rw [if_neg c42] at H
           have c42b0 : decide (x18_2 < ji10) = false := decide_eq_false c42
           clear c42
           replace H := Option.bind_eq_some_iff.mp H
           obtain ⟨⟨t170, t173⟩, A660, H⟩ := H
           replace H : ((GEnc.decode_Decode.f k2 (wrap64 (1 + (wrap64 (Int.tmod (IntKind.u64.wrap (a0)) 4)))) 2 x16_2 x12_1).bind fun bt174 => ((GEnc.decode_Decode.f k2 (wrap64 (1 + (wrap64 (Int.tmod (IntKind.u64.wrap (a0)) 4)))) 2 x17_2 x12_1).bind fun bt178 => ((GBase.ossuarylaw0_Num.f t173).bind fun t182 => (if t182 = 0 then ((GBase.ossuarylaw0_Num.f bt174.2).bind fun t183 => (if t183 = 0 then ((GBase.ossuarylaw0_Num.f bt178.2).bind fun t184 => (if t184 = 0 then (if (t170.length : Int) = (wrap64 (1 + (wrap64 (Int.tmod (IntKind.u64.wrap (a0)) 4)))) then (if (bt174.1.length : Int) = (wrap64 (1 + (wrap64 (Int.tmod (IntKind.u64.wrap (a0)) 4)))) then (ossuarylaw7_DecodeSums.j2 k2 t170 bt174.1 bt178.1 ((bt178.1.length : Int) != (wrap64 (1 + (wrap64 (Int.tmod (IntKind.u64.wrap (a0)) 4))))) (wrap64 (1 + (wrap64 (Int.tmod (IntKind.u64.wrap (a0)) 4)))) 2) else (ossuarylaw7_DecodeSums.j2 k2 t170 bt174.1 bt178.1 true (wrap64 (1 + (wrap64 (Int.tmod (IntKind.u64.wrap (a0)) 4)))) 2)) else (ossuarylaw7_DecodeSums.j2 k2 t170 bt174.1 bt178.1 true (wrap64 (1 + (wrap64 (Int.tmod (IntKind.u64.wrap (a0)) 4)))) 2)) else (ossuarylaw7_DecodeSums.j2 k2 t170 bt174.1 bt178.1 true (wrap64 (1 + (wrap64 (Int.tmod (IntKind.u64.wrap (a0)) 4)))) 2))) else (ossuarylaw7_DecodeSums.j2 k2 t170 bt174.1 bt178.1 true (wrap64 (1 + (wrap64 (Int.tmod (IntKind.u64.wrap (a0)) 4)))) 2))) else (ossuarylaw7_DecodeSums.j2 k2 t170 bt174.1 bt178.1 true (wrap64 (1 + (wrap64 (Int.tmod (IntKind.u64.wrap (a0)) 4)))) 2))))) = some r := H
           have A66 := mk0 A660
           clear A660
           replace H := Option.bind_eq_some_iff.mp H
           obtain ⟨⟨t174, t177⟩, A670, H⟩ := H
           replace H : ((GEnc.decode_Decode.f k2 (wrap64 (1 + (wrap64 (Int.tmod (IntKind.u64.wrap (a0)) 4)))) 2 x17_2 x12_1).bind fun bt178 => ((GBase.ossuarylaw0_Num.f t173).bind fun t182 => (if t182 = 0 then ((GBase.ossuarylaw0_Num.f t177).bind fun t183 => (if t183 = 0 then ((GBase.ossuarylaw0_Num.f bt178.2).bind fun t184 => (if t184 = 0 then (if (t170.length : Int) = (wrap64 (1 + (wrap64 (Int.tmod (IntKind.u64.wrap (a0)) 4)))) then (if (t174.length : Int) = (wrap64 (1 + (wrap64 (Int.tmod (IntKind.u64.wrap (a0)) 4)))) then (ossuarylaw7_DecodeSums.j2 k2 t170 t174 bt178.1 ((bt178.1.length : Int) != (wrap64 (1 + (wrap64 (Int.tmod (IntKind.u64.wrap (a0)) 4))))) (wrap64 (1 + (wrap64 (Int.tmod (IntKind.u64.wrap (a0)) 4)))) 2) else (ossuarylaw7_DecodeSums.j2 k2 t170 t174 bt178.1 true (wrap64 (1 + (wrap64 (Int.tmod (IntKind.u64.wrap (a0)) 4)))) 2)) else (ossuarylaw7_DecodeSums.j2 k2 t170 t174 bt178.1 true (wrap64 (1 + (wrap64 (Int.tmod (IntKind.u64.wrap (a0)) 4)))) 2)) else (ossuarylaw7_DecodeSums.j2 k2 t170 t174 bt178.1 true (wrap64 (1 + (wrap64 (Int.tmod (IntKind.u64.wrap (a0)) 4)))) 2))) else (ossuarylaw7_DecodeSums.j2 k2 t170 t174 bt178.1 true (wrap64 (1 + (wrap64 (Int.tmod (IntKind.u64.wrap (a0)) 4)))) 2))) else (ossuarylaw7_DecodeSums.j2 k2 t170 t174 bt178.1 true (wrap64 (1 + (wrap64 (Int.tmod (IntKind.u64.wrap (a0)) 4)))) 2)))) = some r := H
           have A67 := mk0 A670
           clear A670
           replace H := Option.bind_eq_some_iff.mp H
           obtain ⟨⟨t178, t181⟩, A680, H⟩ := H
           replace H : ((GBase.ossuarylaw0_Num.f t173).bind fun t182 => (if t182 = 0 then ((GBase.ossuarylaw0_Num.f t177).bind fun t183 => (if t183 = 0 then ((GBase.ossuarylaw0_Num.f t181).bind fun t184 => (if t184 = 0 then (if (t170.length : Int) = (wrap64 (1 + (wrap64 (Int.tmod (IntKind.u64.wrap (a0)) 4)))) then (if (t174.length : Int) = (wrap64 (1 + (wrap64 (Int.tmod (IntKind.u64.wrap (a0)) 4)))) then (ossuarylaw7_DecodeSums.j2 k2 t170 t174 t178 ((t178.length : Int) != (wrap64 (1 + (wrap64 (Int.tmod (IntKind.u64.wrap (a0)) 4))))) (wrap64 (1 + (wrap64 (Int.tmod (IntKind.u64.wrap (a0)) 4)))) 2) else (ossuarylaw7_DecodeSums.j2 k2 t170 t174 t178 true (wrap64 (1 + (wrap64 (Int.tmod (IntKind.u64.wrap (a0)) 4)))) 2)) else (ossuarylaw7_DecodeSums.j2 k2 t170 t174 t178 true (wrap64 (1 + (wrap64 (Int.tmod (IntKind.u64.wrap (a0)) 4)))) 2)) else (ossuarylaw7_DecodeSums.j2 k2 t170 t174 t178 true (wrap64 (1 + (wrap64 (Int.tmod (IntKind.u64.wrap (a0)) 4)))) 2))) else (ossuarylaw7_DecodeSums.j2 k2 t170 t174 t178 true (wrap64 (1 + (wrap64 (Int.tmod (IntKind.u64.wrap (a0)) 4)))) 2))) else (ossuarylaw7_DecodeSums.j2 k2 t170 t174 t178 true (wrap64 (1 + (wrap64 (Int.tmod (IntKind.u64.wrap (a0)) 4)))) 2))) = some r := H
           have A68 := mk0 A680
           clear A680
           have HC69 := mk0 H
           clear H
           have hcz70_0 : wr.cell? ⟨gb145, 0, none⟩ = some (.int .i64 (wrap64 (1 + (wrap64 (Int.tmod (IntKind.u64.wrap (a0)) 4))))) := (blk_cell BK145.out 0).trans rfl
           have hcz70_1 : wr.cell? ⟨gb145, 1, none⟩ = some (.int .i64 2) := (blk_cell BK145.out 1).trans rfl
           have hfz70_0 := blk_frozen BK145.out 0
           have hfz70_1 := blk_frozen BK145.out 1
           obtain ⟨Ao71, co71, eo71⟩ := Kd.R_slice HO_15.out
           subst eo71
           obtain ⟨Ao72, co72, eo72⟩ := Kd.R_slice HO_12.out
           subst eo72
           go_upto_region 28 with (first | ((with_reducible refine gCa (f := 53) rfl ?_); refine goesL_ (some 136) rfl rfl Try.func53 (by kernel_rfl) rfl #[.agg #[.int .i64 (wrap64 (1 + (wrap64 (Int.tmod (IntKind.u64.wrap (a0)) 4)))), .int .i64 2], .slice Ao71 x15_2.length co71, .slice Ao72 x12_1.length co72] rfl (by (try simp only [List.map_toArray, List.map_cons, List.map_nil]); first | done | rfl | (simp only [List.length_drop, List.length_take]; rfl)) ?_; (with_reducible refine (GEnc.decode_Decode.calls k2 (wrap64 (1 + (wrap64 (Int.tmod (IntKind.u64.wrap (a0)) 4)))) 2 _ _ x15_2 _ _ x12_1 t170 t173 _ ?side1 ?side2 ?side3 ?side4 A66.out).mono ?_); (case side1 => repeat (first | exact (Kd.R_reads' HO_15.out).2.2 | (with_reducible refine Kd.C_alloc ?_ _) | (with_reducible refine Kd.C_drewN ?_ _) | (with_reducible refine Kd.C_drew ?_))); (case side2 => exact (Kd.R_reads' HO_15.out).2.1); (case side3 => repeat (first | exact (Kd.R_reads' HO_12.out).2.2 | (with_reducible refine Kd.C_alloc ?_ _) | (with_reducible refine Kd.C_drewN ?_ _) | (with_reducible refine Kd.C_drew ?_))); (case side4 => exact (Kd.R_reads' HO_12.out).2.1); rintro e w73 ⟨v171, rfl, ho0, hb⟩; refine ⟨_, rfl, ?_⟩; have n0_ := mk0 (Kd.R_below (by (with_reducible repeat (first | apply rA | apply rN | apply rD)); exact HO_12.out) hb); have n1_ := mk0 (Kd.R_elder' (by (with_reducible repeat (first | apply rA | apply rN | apply rD)); exact HO_15.out) (Kd.R_base ho0) hb); have n2_ := mk0 (Kd.R_elder' (by (with_reducible repeat (first | apply rA | apply rN | apply rD)); exact HO_16.out) (Kd.R_base ho0) hb); have n3_ := mk0 (Kd.R_elder' (by (with_reducible repeat (first | apply rA | apply rN | apply rD)); exact HO_17.out) (Kd.R_base ho0) hb); have n4_ := mk0 (Kd.R_lower (Kd.R_new' (Kd.R_new' (Kd.R_new' ho0 (Kd.R_lt (by (with_reducible repeat (first | apply rA | apply rN | apply rD)); exact HO_15.out))) (Kd.R_lt (by (with_reducible repeat (first | apply rA | apply rN | apply rD)); exact HO_16.out))) (Kd.R_lt (by (with_reducible repeat (first | apply rA | apply rN | apply rD)); exact HO_17.out))) (below_size (by repeat (first | (with_reducible first | exact HB.out | apply lA | apply lN | apply lD | refine lT ?_ ‹_›) | exact HB.out)))); have n5_ := mk0 (blk_below (g := gb145) (o := .cells #[.int .i64 (wrap64 (1 + (wrap64 (Int.tmod (IntKind.u64.wrap (a0)) 4)))), .int .i64 2] 51 (0, 0)) (by (with_reducible repeat (first | apply bN | apply bD | apply bA)); exact BK145.out) hb); have n6_ := mk0 (below_step (by repeat (first | (with_reducible first | exact HB.out | apply lA | apply lN | apply lD | refine lT ?_ ‹_›) | exact HB.out)) hb); clear HO_12; clear HO_15; clear HO_16; clear HO_17; clear BK145; clear HB; have HO_12 := n0_; have HO_15 := n1_; have HO_16 := n2_; have HO_17 := n3_; have HO172 := n4_; have BK145 := n5_; have HB := n6_; clear n0_ n1_ n2_ n3_ n4_ n5_ n6_; (try clear hb); (try clear hb2); (try clear hk); (try clear hi); (try clear ho0); have hcz74_0 : w73.cell? ⟨gb145, 0, none⟩ = some (.int .i64 (wrap64 (1 + (wrap64 (Int.tmod (IntKind.u64.wrap (a0)) 4))))) := (blk_cell BK145.out 0).trans rfl; have hcz74_1 : w73.cell? ⟨gb145, 1, none⟩ = some (.int .i64 2) := (blk_cell BK145.out 1).trans rfl; have hfz74_0 := blk_frozen BK145.out 0; have hfz74_1 := blk_frozen BK145.out 1; obtain ⟨Ao75, co75, eo75⟩ := Kd.R_slice HO_16.out; subst eo75) | ((with_reducible refine gCa (f := 53) rfl ?_); refine goesL_ (some 143) rfl rfl Try.func53 (by kernel_rfl) rfl #[.agg #[.int .i64 (wrap64 (1 + (wrap64 (Int.tmod (IntKind.u64.wrap (a0)) 4)))), .int .i64 2], .slice Ao75 x16_2.length co75, .slice Ao72 x12_1.length co72] rfl (by (try simp only [List.map_toArray, List.map_cons, List.map_nil]); first | done | rfl | (simp only [List.length_drop, List.length_take]; rfl)) ?_; (with_reducible refine (GEnc.decode_Decode.calls k2 (wrap64 (1 + (wrap64 (Int.tmod (IntKind.u64.wrap (a0)) 4)))) 2 _ _ x16_2 _ _ x12_1 t174 t177 _ ?side1 ?side2 ?side3 ?side4 A67.out).mono ?_); (case side1 => repeat (first | exact (Kd.R_reads' HO_16.out).2.2 | (with_reducible refine Kd.C_alloc ?_ _) | (with_reducible refine Kd.C_drewN ?_ _) | (with_reducible refine Kd.C_drew ?_))); (case side2 => exact (Kd.R_reads' HO_16.out).2.1); (case side3 => repeat (first | exact (Kd.R_reads' HO_12.out).2.2 | (with_reducible refine Kd.C_alloc ?_ _) | (with_reducible refine Kd.C_drewN ?_ _) | (with_reducible refine Kd.C_drew ?_))); (case side4 => exact (Kd.R_reads' HO_12.out).2.1); rintro e w76 ⟨v175, rfl, ho0, hb⟩; refine ⟨_, rfl, ?_⟩; have n0_ := mk0 (Kd.R_below (by (with_reducible repeat (first | apply rA | apply rN | apply rD)); exact HO_12.out) hb); have n1_ := mk0 (Kd.R_elder' (by (with_reducible repeat (first | apply rA | apply rN | apply rD)); exact HO_15.out) (Kd.R_base ho0) hb); have n2_ := mk0 (Kd.R_elder' (by (with_reducible repeat (first | apply rA | apply rN | apply rD)); exact HO_16.out) (Kd.R_base ho0) hb); have n3_ := mk0 (Kd.R_elder' (by (with_reducible repeat (first | apply rA | apply rN | apply rD)); exact HO_17.out) (Kd.R_base ho0) hb); have n4_ := mk0 (Kd.R_elder' (by (with_reducible repeat (first | apply rA | apply rN | apply rD)); exact HO172.out) (Kd.R_base ho0) hb); have n5_ := mk0 (Kd.R_lower (Kd.R_new' (Kd.R_new' (Kd.R_new' (Kd.R_new' ho0 (Kd.R_lt (by (with_reducible repeat (first | apply rA | apply rN | apply rD)); exact HO_15.out))) (Kd.R_lt (by (with_reducible repeat (first | apply rA | apply rN | apply rD)); exact HO_16.out))) (Kd.R_lt (by (with_reducible repeat (first | apply rA | apply rN | apply rD)); exact HO_17.out))) (Kd.R_lt (by (with_reducible repeat (first | apply rA | apply rN | apply rD)); exact HO172.out))) (below_size (by repeat (first | (with_reducible first | exact HB.out | apply lA | apply lN | apply lD | refine lT ?_ ‹_›) | exact HB.out)))); have n6_ := mk0 (blk_below (g := gb145) (o := .cells #[.int .i64 (wrap64 (1 + (wrap64 (Int.tmod (IntKind.u64.wrap (a0)) 4)))), .int .i64 2] 51 (0, 0)) (by (with_reducible repeat (first | apply bN | apply bD | apply bA)); exact BK145.out) hb); have n7_ := mk0 (below_step (by repeat (first | (with_reducible first | exact HB.out | apply lA | apply lN | apply lD | refine lT ?_ ‹_›) | exact HB.out)) hb); clear HO_12; clear HO_15; clear HO_16; clear HO_17; clear HO172; clear BK145; clear HB; have HO_12 := n0_; have HO_15 := n1_; have HO_16 := n2_; have HO_17 := n3_; have HO172 := n4_; have HO176 := n5_; have BK145 := n6_; have HB := n7_; clear n0_ n1_ n2_ n3_ n4_ n5_ n6_ n7_; (try clear hb); (try clear hb2); (try clear hk); (try clear hi); (try clear ho0); have hcz77_0 : w76.cell? ⟨gb145, 0, none⟩ = some (.int .i64 (wrap64 (1 + (wrap64 (Int.tmod (IntKind.u64.wrap (a0)) 4))))) := (blk_cell BK145.out 0).trans rfl; have hcz77_1 : w76.cell? ⟨gb145, 1, none⟩ = some (.int .i64 2) := (blk_cell BK145.out 1).trans rfl; have hfz77_0 := blk_frozen BK145.out 0; have hfz77_1 := blk_frozen BK145.out 1; obtain ⟨Ao78, co78, eo78⟩ := Kd.R_slice HO_17.out; subst eo78) | ((with_reducible refine gCa (f := 53) rfl ?_); refine goesL_ (some 150) rfl rfl Try.func53 (by kernel_rfl) rfl #[.agg #[.int .i64 (wrap64 (1 + (wrap64 (Int.tmod (IntKind.u64.wrap (a0)) 4)))), .int .i64 2], .slice Ao78 x17_2.length co78, .slice Ao72 x12_1.length co72] rfl (by (try simp only [List.map_toArray, List.map_cons, List.map_nil]); first | done | rfl | (simp only [List.length_drop, List.length_take]; rfl)) ?_; (with_reducible refine (GEnc.decode_Decode.calls k2 (wrap64 (1 + (wrap64 (Int.tmod (IntKind.u64.wrap (a0)) 4)))) 2 _ _ x17_2 _ _ x12_1 t178 t181 _ ?side1 ?side2 ?side3 ?side4 A68.out).mono ?_); (case side1 => repeat (first | exact (Kd.R_reads' HO_17.out).2.2 | (with_reducible refine Kd.C_alloc ?_ _) | (with_reducible refine Kd.C_drewN ?_ _) | (with_reducible refine Kd.C_drew ?_))); (case side2 => exact (Kd.R_reads' HO_17.out).2.1); (case side3 => repeat (first | exact (Kd.R_reads' HO_12.out).2.2 | (with_reducible refine Kd.C_alloc ?_ _) | (with_reducible refine Kd.C_drewN ?_ _) | (with_reducible refine Kd.C_drew ?_))); (case side4 => exact (Kd.R_reads' HO_12.out).2.1); rintro e w79 ⟨v179, rfl, ho0, hb⟩; refine ⟨_, rfl, ?_⟩; have n0_ := mk0 (Kd.R_below (by (with_reducible repeat (first | apply rA | apply rN | apply rD)); exact HO_12.out) hb); have n1_ := mk0 (Kd.R_elder' (by (with_reducible repeat (first | apply rA | apply rN | apply rD)); exact HO_15.out) (Kd.R_base ho0) hb); have n2_ := mk0 (Kd.R_elder' (by (with_reducible repeat (first | apply rA | apply rN | apply rD)); exact HO_16.out) (Kd.R_base ho0) hb); have n3_ := mk0 (Kd.R_elder' (by (with_reducible repeat (first | apply rA | apply rN | apply rD)); exact HO_17.out) (Kd.R_base ho0) hb); have n4_ := mk0 (Kd.R_elder' (by (with_reducible repeat (first | apply rA | apply rN | apply rD)); exact HO172.out) (Kd.R_base ho0) hb); have n5_ := mk0 (Kd.R_elder' (by (with_reducible repeat (first | apply rA | apply rN | apply rD)); exact HO176.out) (Kd.R_base ho0) hb); have n6_ := mk0 (Kd.R_lower (Kd.R_new' (Kd.R_new' (Kd.R_new' (Kd.R_new' (Kd.R_new' ho0 (Kd.R_lt (by (with_reducible repeat (first | apply rA | apply rN | apply rD)); exact HO_15.out))) (Kd.R_lt (by (with_reducible repeat (first | apply rA | apply rN | apply rD)); exact HO_16.out))) (Kd.R_lt (by (with_reducible repeat (first | apply rA | apply rN | apply rD)); exact HO_17.out))) (Kd.R_lt (by (with_reducible repeat (first | apply rA | apply rN | apply rD)); exact HO172.out))) (Kd.R_lt (by (with_reducible repeat (first | apply rA | apply rN | apply rD)); exact HO176.out))) (below_size (by repeat (first | (with_reducible first | exact HB.out | apply lA | apply lN | apply lD | refine lT ?_ ‹_›) | exact HB.out)))); have n7_ := mk0 (blk_below (g := gb145) (o := .cells #[.int .i64 (wrap64 (1 + (wrap64 (Int.tmod (IntKind.u64.wrap (a0)) 4)))), .int .i64 2] 51 (0, 0)) (by (with_reducible repeat (first | apply bN | apply bD | apply bA)); exact BK145.out) hb); have n8_ := mk0 (below_step (by repeat (first | (with_reducible first | exact HB.out | apply lA | apply lN | apply lD | refine lT ?_ ‹_›) | exact HB.out)) hb); clear HO_12; clear HO_15; clear HO_16; clear HO_17; clear HO172; clear HO176; clear BK145; clear HB; have HO_12 := n0_; have HO_15 := n1_; have HO_16 := n2_; have HO_17 := n3_; have HO172 := n4_; have HO176 := n5_; have HO180 := n6_; have BK145 := n7_; have HB := n8_; clear n0_ n1_ n2_ n3_ n4_ n5_ n6_ n7_ n8_; (try clear hb); (try clear hb2); (try clear hk); (try clear hi); (try clear ho0)))
           (try simp only [Act.put, List.setIfInBounds_toArray, List.set_cons_zero, List.set_cons_succ])
           go_cut [186] (fun v186 wc => ∃ (kq : Nat) (x186_68 : Bool), v186 = .bool x186_68 ∧ Aside0 (ossuarylaw7_DecodeSums.j2 kq t170 t174 t178 x186_68 (wrap64 (1 + (wrap64 (Int.tmod (IntKind.u64.wrap (a0)) 4)))) 2 = some r) ∧ Aside0 (kq ≤ k2) ∧ Aside0 (Kd.R Kd.string 9 wc w.heap.size (fun k_ => some k_ ≠ (v175 : Value).ownBlock ∧ some k_ ≠ (v179 : Value).ownBlock) v171 t170) ∧ Aside0 (Kd.R Kd.string 9 wc w.heap.size (fun k_ => some k_ ≠ (v171 : Value).ownBlock ∧ some k_ ≠ (v179 : Value).ownBlock) v175 t174) ∧ Aside0 (Kd.R Kd.string 9 wc w.heap.size (fun k_ => some k_ ≠ (v171 : Value).ownBlock ∧ some k_ ≠ (v175 : Value).ownBlock) v179 t178) ∧ Aside0 (wc.heap[gb145]? = some (.cells #[.int .i64 (wrap64 (1 + (wrap64 (Int.tmod (IntKind.u64.wrap (a0)) 4)))), .int .i64 2] 51 (0, 0))) ∧ Aside0 (Below w.heap.size w wc))
           case first =>
            have H := HC69.out
            clear HC69
            replace H := Option.bind_eq_some_iff.mp H
            obtain ⟨t182, A800, H⟩ := H
            replace H : (if t182 = 0 then ((GBase.ossuarylaw0_Num.f t177).bind fun t183 => (if t183 = 0 then ((GBase.ossuarylaw0_Num.f t181).bind fun t184 => (if t184 = 0 then (if (t170.length : Int) = (wrap64 (1 + (wrap64 (Int.tmod (IntKind.u64.wrap (a0)) 4)))) then (if (t174.length : Int) = (wrap64 (1 + (wrap64 (Int.tmod (IntKind.u64.wrap (a0)) 4)))) then (ossuarylaw7_DecodeSums.j2 k2 t170 t174 t178 ((t178.length : Int) != (wrap64 (1 + (wrap64 (Int.tmod (IntKind.u64.wrap (a0)) 4))))) (wrap64 (1 + (wrap64 (Int.tmod (IntKind.u64.wrap (a0)) 4)))) 2) else (ossuarylaw7_DecodeSums.j2 k2 t170 t174 t178 true (wrap64 (1 + (wrap64 (Int.tmod (IntKind.u64.wrap (a0)) 4)))) 2)) else (ossuarylaw7_DecodeSums.j2 k2 t170 t174 t178 true (wrap64 (1 + (wrap64 (Int.tmod (IntKind.u64.wrap (a0)) 4)))) 2)) else (ossuarylaw7_DecodeSums.j2 k2 t170 t174 t178 true (wrap64 (1 + (wrap64 (Int.tmod (IntKind.u64.wrap (a0)) 4)))) 2))) else (ossuarylaw7_DecodeSums.j2 k2 t170 t174 t178 true (wrap64 (1 + (wrap64 (Int.tmod (IntKind.u64.wrap (a0)) 4)))) 2))) else (ossuarylaw7_DecodeSums.j2 k2 t170 t174 t178 true (wrap64 (1 + (wrap64 (Int.tmod (IntKind.u64.wrap (a0)) 4)))) 2)) = some r := H
            have A80 := mk0 A800
            clear A800
            by_cases c81 : t182 = 0
            ·rw [if_pos c81] at H
             have c81b0 : (t182 == 0) = true := beq_iff_eq.mpr c81
             have c81b1 : (t182 != 0) = false := bne_eq_false_iff_eq.mpr c81
             clear c81
             (first | rw [c81b0] | (simp only [i64_w, i32_w]; rw [c81b0]) | skip)
             replace H := Option.bind_eq_some_iff.mp H
             obtain ⟨t183, A820, H⟩ := H
             replace H : (if t183 = 0 then ((GBase.ossuarylaw0_Num.f t181).bind fun t184 => (if t184 = 0 then (if (t170.length : Int) = (wrap64 (1 + (wrap64 (Int.tmod (IntKind.u64.wrap (a0)) 4)))) then (if (t174.length : Int) = (wrap64 (1 + (wrap64 (Int.tmod (IntKind.u64.wrap (a0)) 4)))) then (ossuarylaw7_DecodeSums.j2 k2 t170 t174 t178 ((t178.length : Int) != (wrap64 (1 + (wrap64 (Int.tmod (IntKind.u64.wrap (a0)) 4))))) (wrap64 (1 + (wrap64 (Int.tmod (IntKind.u64.wrap (a0)) 4)))) 2) else (ossuarylaw7_DecodeSums.j2 k2 t170 t174 t178 true (wrap64 (1 + (wrap64 (Int.tmod (IntKind.u64.wrap (a0)) 4)))) 2)) else (ossuarylaw7_DecodeSums.j2 k2 t170 t174 t178 true (wrap64 (1 + (wrap64 (Int.tmod (IntKind.u64.wrap (a0)) 4)))) 2)) else (ossuarylaw7_DecodeSums.j2 k2 t170 t174 t178 true (wrap64 (1 + (wrap64 (Int.tmod (IntKind.u64.wrap (a0)) 4)))) 2))) else (ossuarylaw7_DecodeSums.j2 k2 t170 t174 t178 true (wrap64 (1 + (wrap64 (Int.tmod (IntKind.u64.wrap (a0)) 4)))) 2)) = some r := H
             have A82 := mk0 A820
             clear A820
             by_cases c83 : t183 = 0
             ·rw [if_pos c83] at H
              have c83b0 : (t183 == 0) = true := beq_iff_eq.mpr c83
              have c83b1 : (t183 != 0) = false := bne_eq_false_iff_eq.mpr c83
              clear c83
              replace H := Option.bind_eq_some_iff.mp H
              obtain ⟨t184, A840, H⟩ := H
              replace H : (if t184 = 0 then (if (t170.length : Int) = (wrap64 (1 + (wrap64 (Int.tmod (IntKind.u64.wrap (a0)) 4)))) then (if (t174.length : Int) = (wrap64 (1 + (wrap64 (Int.tmod (IntKind.u64.wrap (a0)) 4)))) then (ossuarylaw7_DecodeSums.j2 k2 t170 t174 t178 ((t178.length : Int) != (wrap64 (1 + (wrap64 (Int.tmod (IntKind.u64.wrap (a0)) 4))))) (wrap64 (1 + (wrap64 (Int.tmod (IntKind.u64.wrap (a0)) 4)))) 2) else (ossuarylaw7_DecodeSums.j2 k2 t170 t174 t178 true (wrap64 (1 + (wrap64 (Int.tmod (IntKind.u64.wrap (a0)) 4)))) 2)) else (ossuarylaw7_DecodeSums.j2 k2 t170 t174 t178 true (wrap64 (1 + (wrap64 (Int.tmod (IntKind.u64.wrap (a0)) 4)))) 2)) else (ossuarylaw7_DecodeSums.j2 k2 t170 t174 t178 true (wrap64 (1 + (wrap64 (Int.tmod (IntKind.u64.wrap (a0)) 4)))) 2)) = some r := H
              have A84 := mk0 A840
              clear A840
              by_cases c85 : t184 = 0
              ·rw [if_pos c85] at H
               have c85b0 : (t184 == 0) = true := beq_iff_eq.mpr c85
               have c85b1 : (t184 != 0) = false := bne_eq_false_iff_eq.mpr c85
               clear c85
               by_cases c86 : (t170.length : Int) = (wrap64 (1 + (wrap64 (Int.tmod (IntKind.u64.wrap (a0)) 4))))
               ·rw [if_pos c86] at H
                have c86b0 : ((t170.length : Int) == (wrap64 (1 + (wrap64 (Int.tmod (IntKind.u64.wrap (a0)) 4))))) = true := beq_iff_eq.mpr c86
                have c86b1 : ((t170.length : Int) != (wrap64 (1 + (wrap64 (Int.tmod (IntKind.u64.wrap (a0)) 4))))) = false := bne_eq_false_iff_eq.mpr c86
                clear c86
                by_cases c87 : (t174.length : Int) = (wrap64 (1 + (wrap64 (Int.tmod (IntKind.u64.wrap (a0)) 4))))
                ·rw [if_pos c87] at H
                 have c87b0 : ((t174.length : Int) == (wrap64 (1 + (wrap64 (Int.tmod (IntKind.u64.wrap (a0)) 4))))) = true := beq_iff_eq.mpr c87
                 have c87b1 : ((t174.length : Int) != (wrap64 (1 + (wrap64 (Int.tmod (IntKind.u64.wrap (a0)) 4))))) = false := bne_eq_false_iff_eq.mpr c87
                 clear c87
                 have H' := mk0 H
                 clear H
                 go_wp2_with (first | ((with_reducible refine gCa (f := 35) rfl ?_); refine goesL_ (some 154) rfl rfl Try.func35 (by kernel_rfl) rfl #[.int .i64 t173] rfl (by (try simp only [List.map_toArray, List.map_cons, List.map_nil]); first | done | rfl | (simp only [List.length_drop, List.length_take]; rfl)) ?_; (with_reducible refine (GBase.ossuarylaw0_Num.calls t173 t182 _ A80.out).mono ?_); rintro e w' ⟨rfl, ⟨nd, rfl⟩⟩; refine ⟨_, rfl, ?_⟩) | (go_at_call 35; (with_reducible refine (GBase.ossuarylaw0_Num.calls t177 t183 _ A82.out).mono ?_); rintro e w' ⟨rfl, ⟨nd, rfl⟩⟩) | (go_at_call 35; (with_reducible refine (GBase.ossuarylaw0_Num.calls t181 t184 _ A84.out).mono ?_); rintro e w' ⟨rfl, ⟨nd, rfl⟩⟩; obtain ⟨Ao88, co88, eo88⟩ := Kd.R_slice HO172.out; subst eo88; have hcz89_0 : w79.cell? ⟨gb145, 0, none⟩ = some (.int .i64 (wrap64 (1 + (wrap64 (Int.tmod (IntKind.u64.wrap (a0)) 4))))) := (blk_cell BK145.out 0).trans rfl; have hcz89_1 : w79.cell? ⟨gb145, 1, none⟩ = some (.int .i64 2) := (blk_cell BK145.out 1).trans rfl; have hfz89_0 := blk_frozen BK145.out 0; have hfz89_1 := blk_frozen BK145.out 1; obtain ⟨Ao90, co90, eo90⟩ := Kd.R_slice HO176.out; subst eo90; obtain ⟨Ao91, co91, eo91⟩ := Kd.R_slice HO180.out; subst eo91))
                 go_meet
                 case rel => exact ⟨_, (((t178.length : Int) != (wrap64 (1 + (wrap64 (Int.tmod (IntKind.u64.wrap (a0)) 4)))))), (by first | rfl | (simp; done) | (simp [*]; done)), H', ⟨by have := HK1.out; have := HK2.out; first | omega | exact Nat.le_refl _⟩, ⟨by (with_reducible repeat (first | apply rA | apply rN | apply rD)); exact Kd.R_mono HO172.out (fun _ hk => ⟨hk.1.2, hk.2⟩)⟩, ⟨by (with_reducible repeat (first | apply rA | apply rN | apply rD)); exact Kd.R_mono HO176.out (fun _ hk => ⟨hk.1.2, hk.2⟩)⟩, ⟨by (with_reducible repeat (first | apply rA | apply rN | apply rD)); exact Kd.R_mono HO180.out (fun _ hk => ⟨hk.1.2, hk.2⟩)⟩, ⟨by (with_reducible repeat (first | apply bN | apply bD | apply bA)); exact BK145.out⟩, ⟨by repeat (first | (with_reducible first | exact HB.out | apply lA | apply lN | apply lD | refine lT ?_ ‹_›) | exact HB.out)⟩⟩
                ·rw [if_neg c87] at H
                 have c87b0 : ((t174.length : Int) == (wrap64 (1 + (wrap64 (Int.tmod (IntKind.u64.wrap (a0)) 4))))) = false := beq_eq_false_iff_ne.mpr c87
                 have c87b1 : ((t174.length : Int) != (wrap64 (1 + (wrap64 (Int.tmod (IntKind.u64.wrap (a0)) 4))))) = true := bne_iff_ne.mpr c87
                 have H' := mk0 H
                 clear H
                 go_wp2_with (first | ((with_reducible refine gCa (f := 35) rfl ?_); refine goesL_ (some 154) rfl rfl Try.func35 (by kernel_rfl) rfl #[.int .i64 t173] rfl (by (try simp only [List.map_toArray, List.map_cons, List.map_nil]); first | done | rfl | (simp only [List.length_drop, List.length_take]; rfl)) ?_; (with_reducible refine (GBase.ossuarylaw0_Num.calls t173 t182 _ A80.out).mono ?_); rintro e w' ⟨rfl, ⟨nd, rfl⟩⟩; refine ⟨_, rfl, ?_⟩) | (go_at_call 35; (with_reducible refine (GBase.ossuarylaw0_Num.calls t177 t183 _ A82.out).mono ?_); rintro e w' ⟨rfl, ⟨nd, rfl⟩⟩) | (go_at_call 35; (with_reducible refine (GBase.ossuarylaw0_Num.calls t181 t184 _ A84.out).mono ?_); rintro e w' ⟨rfl, ⟨nd, rfl⟩⟩; obtain ⟨Ao92, co92, eo92⟩ := Kd.R_slice HO172.out; subst eo92; have hcz93_0 : w79.cell? ⟨gb145, 0, none⟩ = some (.int .i64 (wrap64 (1 + (wrap64 (Int.tmod (IntKind.u64.wrap (a0)) 4))))) := (blk_cell BK145.out 0).trans rfl; have hcz93_1 : w79.cell? ⟨gb145, 1, none⟩ = some (.int .i64 2) := (blk_cell BK145.out 1).trans rfl; have hfz93_0 := blk_frozen BK145.out 0; have hfz93_1 := blk_frozen BK145.out 1; obtain ⟨Ao94, co94, eo94⟩ := Kd.R_slice HO176.out; subst eo94))
                 go_meet
                 case rel => exact ⟨_, (true), (by first | rfl | (simp; done) | (simp [*]; done)), H', ⟨by have := HK1.out; have := HK2.out; first | omega | exact Nat.le_refl _⟩, ⟨by (with_reducible repeat (first | apply rA | apply rN | apply rD)); exact Kd.R_mono HO172.out (fun _ hk => ⟨hk.1.2, hk.2⟩)⟩, ⟨by (with_reducible repeat (first | apply rA | apply rN | apply rD)); exact Kd.R_mono HO176.out (fun _ hk => ⟨hk.1.2, hk.2⟩)⟩, ⟨by (with_reducible repeat (first | apply rA | apply rN | apply rD)); exact Kd.R_mono HO180.out (fun _ hk => ⟨hk.1.2, hk.2⟩)⟩, ⟨by (with_reducible repeat (first | apply bN | apply bD | apply bA)); exact BK145.out⟩, ⟨by repeat (first | (with_reducible first | exact HB.out | apply lA | apply lN | apply lD | refine lT ?_ ‹_›) | exact HB.out)⟩⟩
               ·rw [if_neg c86] at H
                have c86b0 : ((t170.length : Int) == (wrap64 (1 + (wrap64 (Int.tmod (IntKind.u64.wrap (a0)) 4))))) = false := beq_eq_false_iff_ne.mpr c86
                have c86b1 : ((t170.length : Int) != (wrap64 (1 + (wrap64 (Int.tmod (IntKind.u64.wrap (a0)) 4))))) = true := bne_iff_ne.mpr c86
                have H' := mk0 H
                clear H
                go_wp2_with (first | ((with_reducible refine gCa (f := 35) rfl ?_); refine goesL_ (some 154) rfl rfl Try.func35 (by kernel_rfl) rfl #[.int .i64 t173] rfl (by (try simp only [List.map_toArray, List.map_cons, List.map_nil]); first | done | rfl | (simp only [List.length_drop, List.length_take]; rfl)) ?_; (with_reducible refine (GBase.ossuarylaw0_Num.calls t173 t182 _ A80.out).mono ?_); rintro e w' ⟨rfl, ⟨nd, rfl⟩⟩; refine ⟨_, rfl, ?_⟩) | (go_at_call 35; (with_reducible refine (GBase.ossuarylaw0_Num.calls t177 t183 _ A82.out).mono ?_); rintro e w' ⟨rfl, ⟨nd, rfl⟩⟩) | (go_at_call 35; (with_reducible refine (GBase.ossuarylaw0_Num.calls t181 t184 _ A84.out).mono ?_); rintro e w' ⟨rfl, ⟨nd, rfl⟩⟩; obtain ⟨Ao95, co95, eo95⟩ := Kd.R_slice HO172.out; subst eo95; have hcz96_0 : w79.cell? ⟨gb145, 0, none⟩ = some (.int .i64 (wrap64 (1 + (wrap64 (Int.tmod (IntKind.u64.wrap (a0)) 4))))) := (blk_cell BK145.out 0).trans rfl; have hcz96_1 : w79.cell? ⟨gb145, 1, none⟩ = some (.int .i64 2) := (blk_cell BK145.out 1).trans rfl; have hfz96_0 := blk_frozen BK145.out 0; have hfz96_1 := blk_frozen BK145.out 1))
                go_meet
                case rel => exact ⟨_, (true), (by first | rfl | (simp; done) | (simp [*]; done)), H', ⟨by have := HK1.out; have := HK2.out; first | omega | exact Nat.le_refl _⟩, ⟨by (with_reducible repeat (first | apply rA | apply rN | apply rD)); exact Kd.R_mono HO172.out (fun _ hk => ⟨hk.1.2, hk.2⟩)⟩, ⟨by (with_reducible repeat (first | apply rA | apply rN | apply rD)); exact Kd.R_mono HO176.out (fun _ hk => ⟨hk.1.2, hk.2⟩)⟩, ⟨by (with_reducible repeat (first | apply rA | apply rN | apply rD)); exact Kd.R_mono HO180.out (fun _ hk => ⟨hk.1.2, hk.2⟩)⟩, ⟨by (with_reducible repeat (first | apply bN | apply bD | apply bA)); exact BK145.out⟩, ⟨by repeat (first | (with_reducible first | exact HB.out | apply lA | apply lN | apply lD | refine lT ?_ ‹_›) | exact HB.out)⟩⟩
              ·rw [if_neg c85] at H
               have c85b0 : (t184 == 0) = false := beq_eq_false_iff_ne.mpr c85
               have c85b1 : (t184 != 0) = true := bne_iff_ne.mpr c85
               have H' := mk0 H
               clear H
               go_wp2_with (first | ((with_reducible refine gCa (f := 35) rfl ?_); refine goesL_ (some 154) rfl rfl Try.func35 (by kernel_rfl) rfl #[.int .i64 t173] rfl (by (try simp only [List.map_toArray, List.map_cons, List.map_nil]); first | done | rfl | (simp only [List.length_drop, List.length_take]; rfl)) ?_; (with_reducible refine (GBase.ossuarylaw0_Num.calls t173 t182 _ A80.out).mono ?_); rintro e w' ⟨rfl, ⟨nd, rfl⟩⟩; refine ⟨_, rfl, ?_⟩) | (go_at_call 35; (with_reducible refine (GBase.ossuarylaw0_Num.calls t177 t183 _ A82.out).mono ?_); rintro e w' ⟨rfl, ⟨nd, rfl⟩⟩) | (go_at_call 35; (with_reducible refine (GBase.ossuarylaw0_Num.calls t181 t184 _ A84.out).mono ?_); rintro e w' ⟨rfl, ⟨nd, rfl⟩⟩))
               go_meet
               case rel => exact ⟨_, (true), (by first | rfl | (simp; done) | (simp [*]; done)), H', ⟨by have := HK1.out; have := HK2.out; first | omega | exact Nat.le_refl _⟩, ⟨by (with_reducible repeat (first | apply rA | apply rN | apply rD)); exact Kd.R_mono HO172.out (fun _ hk => ⟨hk.1.2, hk.2⟩)⟩, ⟨by (with_reducible repeat (first | apply rA | apply rN | apply rD)); exact Kd.R_mono HO176.out (fun _ hk => ⟨hk.1.2, hk.2⟩)⟩, ⟨by (with_reducible repeat (first | apply rA | apply rN | apply rD)); exact Kd.R_mono HO180.out (fun _ hk => ⟨hk.1.2, hk.2⟩)⟩, ⟨by (with_reducible repeat (first | apply bN | apply bD | apply bA)); exact BK145.out⟩, ⟨by repeat (first | (with_reducible first | exact HB.out | apply lA | apply lN | apply lD | refine lT ?_ ‹_›) | exact HB.out)⟩⟩
             ·rw [if_neg c83] at H
              have c83b0 : (t183 == 0) = false := beq_eq_false_iff_ne.mpr c83
              have c83b1 : (t183 != 0) = true := bne_iff_ne.mpr c83
              have H' := mk0 H
              clear H
              go_wp2_with (first | ((with_reducible refine gCa (f := 35) rfl ?_); refine goesL_ (some 154) rfl rfl Try.func35 (by kernel_rfl) rfl #[.int .i64 t173] rfl (by (try simp only [List.map_toArray, List.map_cons, List.map_nil]); first | done | rfl | (simp only [List.length_drop, List.length_take]; rfl)) ?_; (with_reducible refine (GBase.ossuarylaw0_Num.calls t173 t182 _ A80.out).mono ?_); rintro e w' ⟨rfl, ⟨nd, rfl⟩⟩; refine ⟨_, rfl, ?_⟩) | (go_at_call 35; (with_reducible refine (GBase.ossuarylaw0_Num.calls t177 t183 _ A82.out).mono ?_); rintro e w' ⟨rfl, ⟨nd, rfl⟩⟩))
              go_meet
              case rel => exact ⟨_, (true), (by first | rfl | (simp; done) | (simp [*]; done)), H', ⟨by have := HK1.out; have := HK2.out; first | omega | exact Nat.le_refl _⟩, ⟨by (with_reducible repeat (first | apply rA | apply rN | apply rD)); exact Kd.R_mono HO172.out (fun _ hk => ⟨hk.1.2, hk.2⟩)⟩, ⟨by (with_reducible repeat (first | apply rA | apply rN | apply rD)); exact Kd.R_mono HO176.out (fun _ hk => ⟨hk.1.2, hk.2⟩)⟩, ⟨by (with_reducible repeat (first | apply rA | apply rN | apply rD)); exact Kd.R_mono HO180.out (fun _ hk => ⟨hk.1.2, hk.2⟩)⟩, ⟨by (with_reducible repeat (first | apply bN | apply bD | apply bA)); exact BK145.out⟩, ⟨by repeat (first | (with_reducible first | exact HB.out | apply lA | apply lN | apply lD | refine lT ?_ ‹_›) | exact HB.out)⟩⟩
            ·rw [if_neg c81] at H
             have c81b0 : (t182 == 0) = false := beq_eq_false_iff_ne.mpr c81
             have c81b1 : (t182 != 0) = true := bne_iff_ne.mpr c81
             (first | rw [c81b0] | (simp only [i64_w, i32_w]; rw [c81b0]) | skip)
             have H' := mk0 H
             clear H
             go_wp2_with (first | ((with_reducible refine gCa (f := 35) rfl ?_); refine goesL_ (some 154) rfl rfl Try.func35 (by kernel_rfl) rfl #[.int .i64 t173] rfl (by (try simp only [List.map_toArray, List.map_cons, List.map_nil]); first | done | rfl | (simp only [List.length_drop, List.length_take]; rfl)) ?_; (with_reducible refine (GBase.ossuarylaw0_Num.calls t173 t182 _ A80.out).mono ?_); rintro e w' ⟨rfl, ⟨nd, rfl⟩⟩; refine ⟨_, rfl, ?_⟩))
             go_meet
             case rel => exact ⟨_, (true), (by first | rfl | (simp; done) | (simp [*]; done)), H', ⟨by have := HK1.out; have := HK2.out; first | omega | exact Nat.le_refl _⟩, ⟨by (with_reducible repeat (first | apply rA | apply rN | apply rD)); exact Kd.R_mono HO172.out (fun _ hk => ⟨hk.1.2, hk.2⟩)⟩, ⟨by (with_reducible repeat (first | apply rA | apply rN | apply rD)); exact Kd.R_mono HO176.out (fun _ hk => ⟨hk.1.2, hk.2⟩)⟩, ⟨by (with_reducible repeat (first | apply rA | apply rN | apply rD)); exact Kd.R_mono HO180.out (fun _ hk => ⟨hk.1.2, hk.2⟩)⟩, ⟨by (with_reducible repeat (first | apply bN | apply bD | apply bA)); exact BK145.out⟩, ⟨by repeat (first | (with_reducible first | exact HB.out | apply lA | apply lN | apply lD | refine lT ?_ ‹_›) | exact HB.out)⟩⟩
           case rest =>
            clear HC69
            try clear c1
            try clear p1
            try clear q1
            try clear hx1
            try clear c2
            try clear p2
            try clear q2
            try clear hx2
            try clear c3
            try clear p3
            try clear q3
            try clear hx3
            try clear c4
            try clear c5
            try clear c6
            try clear p6
            try clear c7
            try clear c7b0
            try clear c7b1
            try clear c8
            try clear c11
            try clear c11b0
            try clear c11b1
            try clear c12
            try clear c12b0
            try clear c12b1
            try clear p15
            try clear q15
            try clear hx15
            try clear c20
            try clear c20b0
            try clear c21
            try clear c21b0
            try clear c21b1
            try clear c23
            try clear c23b0
            try clear c23b1
            try clear c24
            try clear c24b0
            try clear p25
            try clear q25
            try clear hx25
            try clear hf25
            try clear q26
            try clear c27
            try clear c32
            try clear c32b0
            try clear p33
            try clear q33
            try clear hx33
            try clear hf33
            try clear q34
            try clear c35
            try clear c42
            try clear c42b0
            try clear c44
            try clear c44b0
            try clear c44b1
            try clear c45
            try clear c45b0
            try clear c45b1
            try clear c46
            try clear c46b0
            try clear c46b1
            try clear c47
            try clear c47b0
            try clear c48
            try clear c48b0
            try clear c49
            try clear c49b0
            try clear c49b1
            try clear c51
            try clear c51b0
            try clear c51b1
            try clear c52
            try clear c53
            try clear c54
            try clear c58
            try clear p64
            try clear c81
            try clear c81b0
            try clear c81b1
            try clear c83
            try clear c83b0
            try clear c83b1
            try clear c85
            try clear c85b0
            try clear c85b1
            try clear c86
            try clear c86b0
            try clear c86b1
            try clear c87
            try clear c87b0
            try clear c87b1
            try clear hcz15_0
            try clear hcz15_1
            try clear hcz36_0
            try clear hcz36_1
            try clear hcz39_0
            try clear hcz39_1
            try clear hcz70_0
            try clear hcz70_1
            try clear hcz74_0
            try clear hcz74_1
            try clear hcz77_0
            try clear hcz77_1
            try clear hcz89_0
            try clear hcz89_1
            try clear hcz93_0
            try clear hcz93_1
            try clear hcz96_0
            try clear hcz96_1
            try clear hfz15_0
            try clear hfz15_1
            try clear hfz36_0
            try clear hfz36_1
            try clear hfz39_0
            try clear hfz39_1
            try clear hfz70_0
            try clear hfz70_1
            try clear hfz74_0
            try clear hfz74_1
            try clear hfz77_0
            try clear hfz77_1
            try clear hfz89_0
            try clear hfz89_1
            try clear hfz93_0
            try clear hfz93_1
            try clear hfz96_0
            try clear hfz96_1
            try clear hx150_0
            try clear hx152_0
            try clear hx25_0
            try clear hx33_0
            try clear p1
            try clear p15
            try clear p150
            try clear p152
            try clear p2
            try clear p25
            try clear p3
            try clear p33
            try clear p6
            try clear q1
            try clear q15
            try clear q150
            try clear q152
            try clear q2
            try clear q25
            try clear q26
            try clear q3
            try clear q33
            try clear q34
            obtain ⟨kq, x186_68, rfl, HA, HJ68, HO_23, HO_25, HO_27, BK145, HB⟩ := hcut
            cases kq with
            | zero => exact absurd HA.out (by simp [ossuarylaw7_DecodeSums.j2])
            | succ kj68 =>
             have H := HA.out
             clear HA
             simp only [ossuarylaw7_DecodeSums.j2] at H
             by_cases c97 : x186_68 = true
             ·subst c97
              have H1 : (some false) = some r := by rw [if_pos rfl] at H; exact H
              clear H
              have H := H1
              clear H1
              exact absurd ((Option.some.inj H).trans HTrue.out) (by decide)
             ·replace c97 := Bool.eq_false_iff.mpr c97
              subst c97
              have H1 : (ossuarylaw7_DecodeSums.l2 kj68 t170 t174 t178 0 (wrap64 (1 + (wrap64 (Int.tmod (IntKind.u64.wrap (a0)) 4)))) 2) = some r := by rw [if_neg (show ¬ (false = true) by decide)] at H; exact H
              clear H
              have H := H1
              clear H1
              have H' := mk0 H
              clear H
              go_wp2
              go_loopg [29] kj68 (fun kq v29 w' => ∃ (x29_4 : Int), v29 = .int .i64 x29_4 ∧ Aside0 (ossuarylaw7_DecodeSums.l2 kq t170 t174 t178 x29_4 (wrap64 (1 + (wrap64 (Int.tmod (IntKind.u64.wrap (a0)) 4)))) 2 = some r) ∧ Aside0 (kq ≤ kj68) ∧ Aside0 (Kd.R Kd.string 9 w' w.heap.size (fun k_ => some k_ ≠ (v175 : Value).ownBlock ∧ some k_ ≠ (v179 : Value).ownBlock) v171 t170) ∧ Aside0 (Kd.R Kd.string 9 w' w.heap.size (fun k_ => some k_ ≠ (v171 : Value).ownBlock ∧ some k_ ≠ (v179 : Value).ownBlock) v175 t174) ∧ Aside0 (Kd.R Kd.string 9 w' w.heap.size (fun k_ => some k_ ≠ (v171 : Value).ownBlock ∧ some k_ ≠ (v175 : Value).ownBlock) v179 t178) ∧ Aside0 (w'.heap[gb145]? = some (.cells #[.int .i64 (wrap64 (1 + (wrap64 (Int.tmod (IntKind.u64.wrap (a0)) 4)))), .int .i64 2] 51 (0, 0))) ∧ Aside0 (Below w.heap.size w w'))
              case atStart => exact ⟨(0), (by first | rfl | (simp; done) | (simp [*]; done)), H', ⟨Nat.le_refl _⟩, ⟨by (with_reducible repeat (first | apply rA | apply rN | apply rD)); exact HO_23.out⟩, ⟨by (with_reducible repeat (first | apply rA | apply rN | apply rD)); exact HO_25.out⟩, ⟨by (with_reducible repeat (first | apply rA | apply rN | apply rD)); exact HO_27.out⟩, ⟨by (with_reducible repeat (first | apply bN | apply bD | apply bA)); exact BK145.out⟩, ⟨by repeat (first | (with_reducible first | exact HB.out | apply lA | apply lN | apply lD | refine lT ?_ ‹_›) | exact HB.out)⟩⟩
              case round =>
               clear H'
               try clear c1
               try clear p1
               try clear q1
               try clear hx1
               try clear c2
               try clear p2
               try clear q2
               try clear hx2
               try clear c3
               try clear p3
               try clear q3
               try clear hx3
               try clear c4
               try clear c5
               try clear c6
               try clear p6
               try clear c7
               try clear c7b0
               try clear c7b1
               try clear c8
               try clear c9
               try clear c11
               try clear c11b0
               try clear c11b1
               try clear c12
               try clear c12b0
               try clear c12b1
               try clear p15
               try clear q15
               try clear hx15
               try clear c20
               try clear c20b0
               try clear c21
               try clear c21b0
               try clear c21b1
               try clear c23
               try clear c23b0
               try clear c23b1
               try clear c24
               try clear c24b0
               try clear p25
               try clear q25
               try clear hx25
               try clear hf25
               try clear q26
               try clear c27
               try clear c32
               try clear c32b0
               try clear p33
               try clear q33
               try clear hx33
               try clear hf33
               try clear q34
               try clear c35
               try clear c42
               try clear c42b0
               try clear c44
               try clear c44b0
               try clear c44b1
               try clear c45
               try clear c45b0
               try clear c45b1
               try clear c46
               try clear c46b0
               try clear c46b1
               try clear c47
               try clear c47b0
               try clear c48
               try clear c48b0
               try clear c49
               try clear c49b0
               try clear c49b1
               try clear c51
               try clear c51b0
               try clear c51b1
               try clear c52
               try clear c53
               try clear c54
               try clear c58
               try clear p64
               try clear c81
               try clear c81b0
               try clear c81b1
               try clear c83
               try clear c83b0
               try clear c83b1
               try clear c85
               try clear c85b0
               try clear c85b1
               try clear c86
               try clear c86b0
               try clear c86b1
               try clear c87
               try clear c87b0
               try clear c87b1
               try clear c97
               try clear hcz15_0
               try clear hcz15_1
               try clear hcz36_0
               try clear hcz36_1
               try clear hcz39_0
               try clear hcz39_1
               try clear hcz70_0
               try clear hcz70_1
               try clear hcz74_0
               try clear hcz74_1
               try clear hcz77_0
               try clear hcz77_1
               try clear hcz89_0
               try clear hcz89_1
               try clear hcz93_0
               try clear hcz93_1
               try clear hcz96_0
               try clear hcz96_1
               try clear hfz15_0
               try clear hfz15_1
               try clear hfz36_0
               try clear hfz36_1
               try clear hfz39_0
               try clear hfz39_1
               try clear hfz70_0
               try clear hfz70_1
               try clear hfz74_0
               try clear hfz74_1
               try clear hfz77_0
               try clear hfz77_1
               try clear hfz89_0
               try clear hfz89_1
               try clear hfz93_0
               try clear hfz93_1
               try clear hfz96_0
               try clear hfz96_1
               try clear hx150_0
               try clear hx152_0
               try clear hx25_0
               try clear hx33_0
               try clear p1
               try clear p15
               try clear p150
               try clear p152
               try clear p2
               try clear p25
               try clear p3
               try clear p33
               try clear p6
               try clear p64
               try clear q1
               try clear q15
               try clear q150
               try clear q152
               try clear q2
               try clear q25
               try clear q26
               try clear q3
               try clear q33
               try clear q34
               obtain ⟨x29_4, rfl, HA, HK4, HO_23, HO_25, HO_27, BK145, HB⟩ := hrel
               cases gk with
               | zero => exact absurd HA.out (by simp [ossuarylaw7_DecodeSums.l2])
               | succ k4 =>
                have H := HA.out
                clear HA
                simp only [ossuarylaw7_DecodeSums.l2] at H
                by_cases c98 : x29_4 < (wrap64 (1 + (wrap64 (Int.tmod (IntKind.u64.wrap (a0)) 4))))
                ·rw [if_pos c98] at H
                 have c98b0 : decide (x29_4 < (wrap64 (1 + (wrap64 (Int.tmod (IntKind.u64.wrap (a0)) 4))))) = true := decide_eq_true c98
                 clear c98
                 obtain ⟨y185, hy185⟩ : ∃ y_ : List Int, y_ = (([1, 1] : List Int)) := ⟨_, rfl⟩
                 replace H : (if 0 ≤ x29_4 then (if x29_4 < (t170.length : Int) then (if x29_4 < (t174.length : Int) then ((GRef.ossuaryref1_Combine.f k4 y185 (([rdOf ByteArray.empty t170 x29_4, rdOf ByteArray.empty t174 x29_4] : List ByteArray))).bind fun bt193 => (if bt193.2 = 0 then (if x29_4 < (t178.length : Int) then (if bt193.1.toList = (rdOf ByteArray.empty t178 x29_4).toList then (ossuarylaw7_DecodeSums.l2 k4 t170 t174 t178 (wrap64 (x29_4 + 1)) (wrap64 (1 + (wrap64 (Int.tmod (IntKind.u64.wrap (a0)) 4)))) 2) else (some false)) else (none)) else (some false))) else (none)) else (none)) else (none)) = some r := by first | (rw [hy185]; with_reducible exact H) | (have H2_ := (Option.bind_some _ _).symm.trans H; rw [hy185]; with_reducible exact H2_) | (have H2_ := (Option.bind_some _ _).symm.trans H; with_reducible exact H2_) | with_reducible exact H | (rw [hy185]; exact H) | exact H
                 have Ny185 := mk0 hy185
                 clear hy185
                 by_cases c99 : 0 ≤ x29_4
                 ·rw [if_pos c99] at H
                  have c99b0 : decide (0 ≤ x29_4) = true := decide_eq_true c99
                  clear c99
                  by_cases c100 : x29_4 < (t170.length : Int)
                  ·rw [if_pos c100] at H
                   have c100b0 : decide (x29_4 < (t170.length : Int)) = true := decide_eq_true c100
                   clear c100
                   by_cases c101 : x29_4 < (t174.length : Int)
                   ·rw [if_pos c101] at H
                    have c101b0 : decide (x29_4 < (t174.length : Int)) = true := decide_eq_true c101
                    clear c101
                    obtain ⟨y190, hy190⟩ : ∃ y_ : List ByteArray, y_ = (([rdOf ByteArray.empty t170 x29_4, rdOf ByteArray.empty t174 x29_4] : List ByteArray)) := ⟨_, rfl⟩
                    replace H : ((GRef.ossuaryref1_Combine.f k4 y185 y190).bind fun bt193 => (if bt193.2 = 0 then (if x29_4 < (t178.length : Int) then (if bt193.1.toList = (rdOf ByteArray.empty t178 x29_4).toList then (ossuarylaw7_DecodeSums.l2 k4 t170 t174 t178 (wrap64 (x29_4 + 1)) (wrap64 (1 + (wrap64 (Int.tmod (IntKind.u64.wrap (a0)) 4)))) 2) else (some false)) else (none)) else (some false))) = some r := by first | (rw [hy190]; with_reducible exact H) | (have H2_ := (Option.bind_some _ _).symm.trans H; rw [hy190]; with_reducible exact H2_) | (have H2_ := (Option.bind_some _ _).symm.trans H; with_reducible exact H2_) | with_reducible exact H | (rw [hy190]; exact H) | exact H
                    have Ny190 := mk0 hy190
                    clear hy190
                    replace H := Option.bind_eq_some_iff.mp H
                    obtain ⟨⟨t193, t194⟩, A1020, H⟩ := H
                    replace H : (if t194 = 0 then (if x29_4 < (t178.length : Int) then (if t193.toList = (rdOf ByteArray.empty t178 x29_4).toList then (ossuarylaw7_DecodeSums.l2 k4 t170 t174 t178 (wrap64 (x29_4 + 1)) (wrap64 (1 + (wrap64 (Int.tmod (IntKind.u64.wrap (a0)) 4)))) 2) else (some false)) else (none)) else (some false)) = some r := H
                    have A102 := mk0 A1020
                    clear A1020
                    by_cases c103 : t194 = 0
                    ·rw [if_pos c103] at H
                     have c103b0 : (t194 == 0) = true := beq_iff_eq.mpr c103
                     have c103b1 : (t194 != 0) = false := bne_eq_false_iff_eq.mpr c103
                     clear c103
                     by_cases c104 : x29_4 < (t178.length : Int)
                     ·rw [if_pos c104] at H
                      have c104b0 : decide (x29_4 < (t178.length : Int)) = true := decide_eq_true c104
                      clear c104
                      by_cases c105 : t193.toList = (rdOf ByteArray.empty t178 x29_4).toList
                      ·rw [if_pos c105] at H
                       have c105b0 : (t193.toList == (rdOf ByteArray.empty t178 x29_4).toList) = true := beq_iff_eq.mpr c105
                       have c105b1 : (t193.toList != (rdOf ByteArray.empty t178 x29_4).toList) = false := bne_eq_false_iff_eq.mpr c105
                       clear c105
                       have H' := mk0 H
                       clear H
                       have hcz106_0 : wr.cell? ⟨gb145, 0, none⟩ = some (.int .i64 (wrap64 (1 + (wrap64 (Int.tmod (IntKind.u64.wrap (a0)) 4))))) := (blk_cell BK145.out 0).trans rfl
                       have hcz106_1 : wr.cell? ⟨gb145, 1, none⟩ = some (.int .i64 2) := (blk_cell BK145.out 1).trans rfl
                       have hfz106_0 := blk_frozen BK145.out 0
                       have hfz106_1 := blk_frozen BK145.out 1
                       try go_wp2
                       have n0_ := mk0 (Kd.R_drew HO_23.out)
                       have n1_ := mk0 (Kd.R_drew HO_25.out)
                       have n2_ := mk0 (Kd.R_drew HO_27.out)
                       have n3_ := mk0 (blk_drew BK145.out)
                       have n4_ := mk0 (below_drew1 HB.out)
                       clear HO_23
                       clear HO_25
                       clear HO_27
                       clear BK145
                       clear HB
                       have HO_23 := n0_
                       have HO_25 := n1_
                       have HO_27 := n2_
                       have BK145 := n3_
                       have HB := n4_
                       clear n0_ n1_ n2_ n3_ n4_
                       obtain ⟨Ao108, co108, eo108⟩ := Kd.R_slice HO_23.out
                       (first | subst eo108 | (injection eo108 with f1_ f2_ f3_; have f4_ := f1_.symm; have f5_ := f3_.symm; clear f1_ f2_ f3_; subst f4_; subst f5_))
                       have p188 : 0 ≤ (x29_4 : Int) := of_decide_eq_true (by first | (with_reducible assumption) | assumption)
                       have q188 : x29_4 < (t170.length : Int) := of_decide_eq_true (by first | (with_reducible assumption) | assumption)
                       obtain ⟨ad188, e188, hx188_0⟩ := Kd.at_string (Kd.R_reads' HO_23.out).2.2 x29_4 p188 q188
                       cases e188
                       replace p188 := eq_true p188
                       replace q188 := eq_true q188
                       obtain ⟨Ao109, co109, eo109⟩ := Kd.R_slice HO_25.out
                       (first | subst eo109 | (injection eo109 with f1_ f2_ f3_; have f4_ := f1_.symm; have f5_ := f3_.symm; clear f1_ f2_ f3_; subst f4_; subst f5_))
                       have p189 : 0 ≤ (x29_4 : Int) := of_decide_eq_true (by first | (with_reducible assumption) | assumption)
                       have q189 : x29_4 < (t174.length : Int) := of_decide_eq_true (by first | (with_reducible assumption) | assumption)
                       obtain ⟨ad189, e189, hx189_0⟩ := Kd.at_string (Kd.R_reads' HO_25.out).2.2 x29_4 p189 q189
                       cases e189
                       replace p189 := eq_true p189
                       replace q189 := eq_true q189
                       refine start_ (n := 16) (S := fun w' => w'.cell? (ad188.add (x29_4).toNat) = some (.string (rdOf ByteArray.empty t170 x29_4)) ∧ w'.cell? (ad189.add (x29_4).toNat) = some (.string (rdOf ByteArray.empty t174 x29_4))) (ds := []) #[false, false, false, false, false, false, false, false, false, false, false, false, false, false, false, false] (by kernel_rfl) rfl rfl ⟨hx188_0, hx189_0⟩ (fun hHeld => ?_); refine with_tabW ossuarylaw7_DecodeSums.tab33 ossuarylaw7_DecodeSums.bits33 (fun HT_ HW_ => ?_)
                       generalize wr.drew = w107 at HO_23 HO_25 HO_27 BK145 HB hx188_0 hx189_0 hHeld ⊢
                       refine pure_ (i := 1) (N := some 195) (v := ?_) (a' := ?_) #[false, true, false, false, false, false, false, false, false, false, false, false, false, false, false, false] rfl rfl (any_of HT_.out (by kernel_rfl)) (fun _ _ _ h => h) (Or.inl ⟨by rfl, ?_⟩) ?_ ?_
                       rotate_left
                       ·intro w'
                        go_simp
                        with_reducible rfl
                       rotate_left
                       ·simp only [Act.put, List.setIfInBounds_toArray, List.set_cons_zero, List.set_cons_succ, i64_w, i32_w]
                        rfl
                       refine pure_ (i := 2) (N := some 196) (v := ?_) (a' := ?_) #[false, true, true, false, false, false, false, false, false, false, false, false, false, false, false, false] rfl rfl (any_of HT_.out (by kernel_rfl)) (fun _ _ _ h => h) (Or.inl ⟨by rfl, ?_⟩) ?_ ?_
                       rotate_left
                       ·intro w'
                        go_simp
                        with_reducible rfl
                       rotate_left
                       ·simp only [Act.put, List.setIfInBounds_toArray, List.set_cons_zero, List.set_cons_succ, i64_w, i32_w]
                        rfl
                       refine pure_ (i := 3) (N := some 197) (v := ?_) (a' := ?_) #[false, true, true, true, false, false, false, false, false, false, false, false, false, false, false, false] rfl rfl (any_of HT_.out (by kernel_rfl)) (fun _ _ _ h => h) (Or.inl ⟨by rfl, ?_⟩) ?_ ?_
                       rotate_left
                       ·intro w'
                        go_simp
                        with_reducible rfl
                       rotate_left
                       ·simp only [Act.put, List.setIfInBounds_toArray, List.set_cons_zero, List.set_cons_succ, i64_w, i32_w]
                        rfl
                       refine pure_ (i := 5) (N := some 199) (v := ?_) (a' := ?_) #[false, true, true, true, false, true, false, false, false, false, false, false, false, false, false, false] rfl rfl (any_of HT_.out (by kernel_rfl)) (fun _ _ _ h => h) (Or.inl ⟨by rfl, ?_⟩) ?_ ?_
                       rotate_left
                       ·intro w'
                        go_simp
                        with_reducible rfl
                       rotate_left
                       ·simp only [Act.put, List.setIfInBounds_toArray, List.set_cons_zero, List.set_cons_succ, i64_w, i32_w]
                        rfl
                       refine pure_ (i := 6) (N := some 200) (v := ?_) (a' := ?_) #[false, true, true, true, false, true, true, false, false, false, false, false, false, false, false, false] rfl rfl (any_of HT_.out (by kernel_rfl)) (fun _ _ _ h => h) (Or.inl ⟨by rfl, ?_⟩) ?_ ?_
                       rotate_left
                       ·intro w'
                        go_simp
                        with_reducible rfl
                       rotate_left
                       ·simp only [Act.put, List.setIfInBounds_toArray, List.set_cons_zero, List.set_cons_succ, i64_w, i32_w]
                        rfl
                       refine pure_ (i := 7) (N := some 201) (v := ?_) (a' := ?_) #[false, true, true, true, false, true, true, true, false, false, false, false, false, false, false, false] rfl rfl (any_of HT_.out (by kernel_rfl)) (fun _ _ _ h => h) (Or.inl ⟨by rfl, ?_⟩) ?_ ?_
                       rotate_left
                       ·intro w'
                        go_simp
                        with_reducible rfl
                       rotate_left
                       ·simp only [Act.put, List.setIfInBounds_toArray, List.set_cons_zero, List.set_cons_succ, i64_w, i32_w]
                        rfl
                       refine take_ (i := 4) (N := some 198) (v := ?_) (a' := ?_) #[false, true, true, true, true, true, true, true, false, false, false, false, false, false, false, false] rfl rfl (take_ofW HT_.out HW_.out (by kernel_rfl)) (fun _ _ _ h => h) (Or.inl ⟨by rfl, ?_⟩) hHeld ?_ ?_
                       rotate_left
                       ·rintro w' ⟨s0, s1⟩
                        go_simp
                        with_reducible rfl
                       rotate_left
                       ·simp only [Act.put, List.setIfInBounds_toArray, List.set_cons_zero, List.set_cons_succ, i64_w, i32_w]
                        rfl
                       refine take_ (i := 8) (N := some 202) (v := ?_) (a' := ?_) #[false, true, true, true, true, true, true, true, true, false, false, false, false, false, false, false] rfl rfl (take_ofW HT_.out HW_.out (by kernel_rfl)) (fun _ _ _ h => h) (Or.inl ⟨by rfl, ?_⟩) hHeld ?_ ?_
                       rotate_left
                       ·rintro w' ⟨s0, s1⟩
                        go_simp
                        with_reducible rfl
                       rotate_left
                       ·simp only [Act.put, List.setIfInBounds_toArray, List.set_cons_zero, List.set_cons_succ, i64_w, i32_w]
                        rfl
                       refine join_ (σ := Value × Value) 6 zGDecodeSums2_0 (fun s_ => [(194, s_.1), (203, s_.2)]) (fun s_ w' => (w'.cell? (ad188.add (x29_4).toNat) = some (.string (rdOf ByteArray.empty t170 x29_4)) ∧ w'.cell? (ad189.add (x29_4).toNat) = some (.string (rdOf ByteArray.empty t174 x29_4))) ∧ (Kd.R (Kd.int .i64) 3 w' w.heap.size (fun _ => True) s_.1 y185) ∧ (Kd.R Kd.string 9 w' w.heap.size (fun k_ => some k_ ≠ (.slice (some ad188) t170.length co108 : Value).ownBlock ∧ some k_ ≠ (.slice (some ad189) t174.length co109 : Value).ownBlock ∧ some k_ ≠ (v179 : Value).ownBlock) s_.2 y190) ∧ (Kd.R Kd.string 9 w' w.heap.size (fun k_ => some k_ ≠ (s_.2 : Value).ownBlock ∧ some k_ ≠ (.slice (some ad189) t174.length co109 : Value).ownBlock ∧ some k_ ≠ (v179 : Value).ownBlock) (.slice (some ad188) t170.length co108) t170) ∧ (Kd.R Kd.string 9 w' w.heap.size (fun k_ => some k_ ≠ (s_.2 : Value).ownBlock ∧ some k_ ≠ (.slice (some ad188) t170.length co108 : Value).ownBlock ∧ some k_ ≠ (v179 : Value).ownBlock) (.slice (some ad189) t174.length co109) t174) ∧ (Kd.R Kd.string 9 w' w.heap.size (fun k_ => some k_ ≠ (s_.2 : Value).ownBlock ∧ some k_ ≠ (.slice (some ad188) t170.length co108 : Value).ownBlock ∧ some k_ ≠ (.slice (some ad189) t174.length co109 : Value).ownBlock) v179 t178) ∧ (w'.heap[gb145]? = some (.cells #[.int .i64 (wrap64 (1 + (wrap64 (Int.tmod (IntKind.u64.wrap (a0)) 4)))), .int .i64 2] 51 (0, 0))) ∧ (Below w.heap.size w w')) ?_ ?_
                       rotate_left
                       ·intro hCont
                        refine two_ (i := 0) (j := 9) (Ni := some 194) (Nj := some 203) #[true, true, true, true, true, true, true, true, true, false, false, false, false, false, false, false] #[false, true, true, true, true, true, true, true, true, true, false, false, false, false, false, false] rfl rfl rfl rfl (two_of HT_.out (by kernel_rfl)) (by decide) (by decide) (fun K hK => ?_) (fun K hK => ?_)
                        ·skip
                         refine Kd.R_lit_step (Kd.int .i64) _ 3 ?hg (N := 194) ?hd (xs := ([1, 1] : List Int)) (inner := [.int .i64 1, .int .i64 1]) (ok := fun _ => True) (okp := fun _ => True) ?hr ?hp (fun _ hk => hk) trivial (Below.refl _ _) (Nat.le_refl _) (by simp) ?_; (case hd => rfl); (case hg => rfl); (case hr => first | (go_simp; done) | (go_simp; rfl)); (case hp => exact (Reps.one (show Kd.M (Kd.int .i64) _ _ _ 1 [.int .i64 1] from rfl) (Reps.one (show Kd.M (Kd.int .i64) _ _ _ 1 [.int .i64 1] from rfl) (Reps.none _ _))))
                         intro v186 w110 ho111 hb hg_ hnew_
                         have HS0_ := (hb.cell (World.block_lt_of_cell? _ _ (hHeld.1))).trans (hHeld.1)
                         have HS1_ := (hb.cell (World.block_lt_of_cell? _ _ (hHeld.2))).trans (hHeld.2)
                         clear hg_ hnew_
                         (first | rw [← Ny185.out] at ho111 | (simp only [Int.reduceToNat] at ho111; rw [← Ny185.out] at ho111))
                         have n0_ := mk0 (Kd.R_below (by (with_reducible repeat (first | apply rA | apply rN | apply rD)); exact HO_23.out) hb)
                         have n1_ := mk0 (Kd.R_below (by (with_reducible repeat (first | apply rA | apply rN | apply rD)); exact HO_25.out) hb)
                         have n2_ := mk0 (Kd.R_below (by (with_reducible repeat (first | apply rA | apply rN | apply rD)); exact HO_27.out) hb)
                         have n3_ := mk0 (Kd.R_lower ho111 (below_size (by repeat (first | (with_reducible first | exact HB.out | apply lA | apply lN | apply lD | refine lT ?_ ‹_›) | exact HB.out))))
                         have n4_ := mk0 (blk_below (g := gb145) (o := .cells #[.int .i64 (wrap64 (1 + (wrap64 (Int.tmod (IntKind.u64.wrap (a0)) 4)))), .int .i64 2] 51 (0, 0)) (by (with_reducible repeat (first | apply bN | apply bD | apply bA)); exact BK145.out) hb)
                         have n5_ := mk0 (below_step (by repeat (first | (with_reducible first | exact HB.out | apply lA | apply lN | apply lD | refine lT ?_ ‹_›) | exact HB.out)) hb)
                         clear HO_23
                         clear HO_25
                         clear HO_27
                         clear BK145
                         clear HB
                         have HO_23 := n0_
                         have HO_25 := n1_
                         have HO_27 := n2_
                         have HO187 := n3_
                         have BK145 := n4_
                         have HB := n5_
                         clear n0_ n1_ n2_ n3_ n4_ n5_
                         clear hb ho111
                         refine hK.out _ _ ⟨HS0_, HS1_⟩ (fun hHeld => ?_)
                         clear hK K
                         refine norm_ (a' := ?_) ?_ ?_
                         rotate_left
                         ·show Act.put _ (some 194) _ = _
                          simp only [Act.put, List.setIfInBounds_toArray, List.set_cons_zero, List.set_cons_succ, i64_w, i32_w]
                          rfl
                         refine one_ (i := 9) (N := some 203) zGDecodeSums2_0 rfl rfl (one_of HT_.out (by kernel_rfl)) (by decide) (fun K hK => ?_)
                         refine Kd.R_lit_step Kd.string _ 9 ?hg (N := 203) ?hd (xs := ([rdOf ByteArray.empty t170 x29_4, rdOf ByteArray.empty t174 x29_4] : List ByteArray)) (inner := [.string (rdOf ByteArray.empty t170 x29_4), .string (rdOf ByteArray.empty t174 x29_4)]) (ok := fun _ => True) (okp := fun _ => True) ?hr ?hp (fun _ hk => hk) trivial (Below.refl _ _) (Nat.le_refl _) (by simp) ?_; (case hd => rfl); (case hg => rfl); (case hr => first | (go_simp; done) | (go_simp; rfl)); (case hp => exact (Reps.one (show Kd.M Kd.string _ _ _ (rdOf ByteArray.empty t170 x29_4) [.string (rdOf ByteArray.empty t170 x29_4)] from rfl) (Reps.one (show Kd.M Kd.string _ _ _ (rdOf ByteArray.empty t174 x29_4) [.string (rdOf ByteArray.empty t174 x29_4)] from rfl) (Reps.none _ _))))
                         intro v191 w112 ho113 hb hg_ hnew_
                         have HS0_ := (hb.cell (World.block_lt_of_cell? _ _ (hHeld.1))).trans (hHeld.1)
                         have HS1_ := (hb.cell (World.block_lt_of_cell? _ _ (hHeld.2))).trans (hHeld.2)
                         clear hg_ hnew_
                         (first | rw [← Ny190.out] at ho113 | (simp only [Int.reduceToNat] at ho113; rw [← Ny190.out] at ho113))
                         have n0_ := mk0 (Kd.R_elder' (by (with_reducible repeat (first | apply rA | apply rN | apply rD)); exact HO_23.out) (Kd.R_base ho113) hb)
                         have n1_ := mk0 (Kd.R_elder' (by (with_reducible repeat (first | apply rA | apply rN | apply rD)); exact HO_25.out) (Kd.R_base ho113) hb)
                         have n2_ := mk0 (Kd.R_elder' (by (with_reducible repeat (first | apply rA | apply rN | apply rD)); exact HO_27.out) (Kd.R_base ho113) hb)
                         have n3_ := mk0 (Kd.R_below (by (with_reducible repeat (first | apply rA | apply rN | apply rD)); exact HO187.out) hb)
                         have n4_ := mk0 (Kd.R_lower (Kd.R_new' (Kd.R_new' (Kd.R_new' ho113 (Kd.R_lt (by (with_reducible repeat (first | apply rA | apply rN | apply rD)); exact HO_23.out))) (Kd.R_lt (by (with_reducible repeat (first | apply rA | apply rN | apply rD)); exact HO_25.out))) (Kd.R_lt (by (with_reducible repeat (first | apply rA | apply rN | apply rD)); exact HO_27.out))) (below_size (by repeat (first | (with_reducible first | exact HB.out | apply lA | apply lN | apply lD | refine lT ?_ ‹_›) | exact HB.out))))
                         have n5_ := mk0 (blk_below (g := gb145) (o := .cells #[.int .i64 (wrap64 (1 + (wrap64 (Int.tmod (IntKind.u64.wrap (a0)) 4)))), .int .i64 2] 51 (0, 0)) (by (with_reducible repeat (first | apply bN | apply bD | apply bA)); exact BK145.out) hb)
                         have n6_ := mk0 (below_step (by repeat (first | (with_reducible first | exact HB.out | apply lA | apply lN | apply lD | refine lT ?_ ‹_›) | exact HB.out)) hb)
                         clear HO_23
                         clear HO_25
                         clear HO_27
                         clear HO187
                         clear BK145
                         clear HB
                         have HO_23 := n0_
                         have HO_25 := n1_
                         have HO_27 := n2_
                         have HO187 := n3_
                         have HO192 := n4_
                         have BK145 := n5_
                         have HB := n6_
                         clear n0_ n1_ n2_ n3_ n4_ n5_ n6_
                         clear hb ho113
                         refine hK.out _ _ ⟨HS0_, HS1_⟩ (fun hHeld => ?_)
                         clear hK K
                         refine norm_ (a' := ?_) ?_ ?_
                         rotate_left
                         ·show Act.put _ (some 203) _ = _
                          simp only [Act.put, List.setIfInBounds_toArray, List.set_cons_zero, List.set_cons_succ, i64_w, i32_w]
                          rfl
                         exact norm_ (by simp only [putAll, Act.put, List.setIfInBounds_toArray, List.set_cons_zero, List.set_cons_succ]) (hCont (v186, v191) _ ⟨hHeld, (by (with_reducible repeat (first | apply rA | apply rN | apply rD)); exact HO187.out), (by (with_reducible repeat (first | apply rA | apply rN | apply rD)); exact Kd.R_mono HO192.out (fun _ hk => ⟨hk.1.1.2, ⟨hk.1.2, hk.2⟩⟩)), (by (with_reducible repeat (first | apply rA | apply rN | apply rD)); exact Kd.R_mono HO_23.out (fun _ hk => ⟨hk.2, ⟨hk.1.1, hk.1.2⟩⟩)), (by (with_reducible repeat (first | apply rA | apply rN | apply rD)); exact Kd.R_mono HO_25.out (fun _ hk => ⟨hk.2, ⟨hk.1.1, hk.1.2⟩⟩)), (by (with_reducible repeat (first | apply rA | apply rN | apply rD)); exact Kd.R_mono HO_27.out (fun _ hk => ⟨hk.2, ⟨hk.1.1, hk.1.2⟩⟩)), (by (with_reducible repeat (first | apply bN | apply bD | apply bA)); exact BK145.out), (by repeat (first | (with_reducible first | exact HB.out | apply lA | apply lN | apply lD | refine lT ?_ ‹_›) | exact HB.out))⟩)
                        ·skip
                         refine Kd.R_lit_step Kd.string _ 9 ?hg (N := 203) ?hd (xs := ([rdOf ByteArray.empty t170 x29_4, rdOf ByteArray.empty t174 x29_4] : List ByteArray)) (inner := [.string (rdOf ByteArray.empty t170 x29_4), .string (rdOf ByteArray.empty t174 x29_4)]) (ok := fun _ => True) (okp := fun _ => True) ?hr ?hp (fun _ hk => hk) trivial (Below.refl _ _) (Nat.le_refl _) (by simp) ?_; (case hd => rfl); (case hg => rfl); (case hr => first | (go_simp; done) | (go_simp; rfl)); (case hp => exact (Reps.one (show Kd.M Kd.string _ _ _ (rdOf ByteArray.empty t170 x29_4) [.string (rdOf ByteArray.empty t170 x29_4)] from rfl) (Reps.one (show Kd.M Kd.string _ _ _ (rdOf ByteArray.empty t174 x29_4) [.string (rdOf ByteArray.empty t174 x29_4)] from rfl) (Reps.none _ _))))
                         intro v191 w110 ho111 hb hg_ hnew_
                         have HS0_ := (hb.cell (World.block_lt_of_cell? _ _ (hHeld.1))).trans (hHeld.1)
                         have HS1_ := (hb.cell (World.block_lt_of_cell? _ _ (hHeld.2))).trans (hHeld.2)
                         clear hg_ hnew_
                         (first | rw [← Ny190.out] at ho111 | (simp only [Int.reduceToNat] at ho111; rw [← Ny190.out] at ho111))
                         have n0_ := mk0 (Kd.R_elder' (by (with_reducible repeat (first | apply rA | apply rN | apply rD)); exact HO_23.out) (Kd.R_base ho111) hb)
                         have n1_ := mk0 (Kd.R_elder' (by (with_reducible repeat (first | apply rA | apply rN | apply rD)); exact HO_25.out) (Kd.R_base ho111) hb)
                         have n2_ := mk0 (Kd.R_elder' (by (with_reducible repeat (first | apply rA | apply rN | apply rD)); exact HO_27.out) (Kd.R_base ho111) hb)
                         have n3_ := mk0 (Kd.R_lower (Kd.R_new' (Kd.R_new' (Kd.R_new' ho111 (Kd.R_lt (by (with_reducible repeat (first | apply rA | apply rN | apply rD)); exact HO_23.out))) (Kd.R_lt (by (with_reducible repeat (first | apply rA | apply rN | apply rD)); exact HO_25.out))) (Kd.R_lt (by (with_reducible repeat (first | apply rA | apply rN | apply rD)); exact HO_27.out))) (below_size (by repeat (first | (with_reducible first | exact HB.out | apply lA | apply lN | apply lD | refine lT ?_ ‹_›) | exact HB.out))))
                         have n4_ := mk0 (blk_below (g := gb145) (o := .cells #[.int .i64 (wrap64 (1 + (wrap64 (Int.tmod (IntKind.u64.wrap (a0)) 4)))), .int .i64 2] 51 (0, 0)) (by (with_reducible repeat (first | apply bN | apply bD | apply bA)); exact BK145.out) hb)
                         have n5_ := mk0 (below_step (by repeat (first | (with_reducible first | exact HB.out | apply lA | apply lN | apply lD | refine lT ?_ ‹_›) | exact HB.out)) hb)
                         clear HO_23
                         clear HO_25
                         clear HO_27
                         clear BK145
                         clear HB
                         have HO_23 := n0_
                         have HO_25 := n1_
                         have HO_27 := n2_
                         have HO192 := n3_
                         have BK145 := n4_
                         have HB := n5_
                         clear n0_ n1_ n2_ n3_ n4_ n5_
                         clear hb ho111
                         refine hK.out _ _ ⟨HS0_, HS1_⟩ (fun hHeld => ?_)
                         clear hK K
                         refine norm_ (a' := ?_) ?_ ?_
                         rotate_left
                         ·show Act.put _ (some 203) _ = _
                          simp only [Act.put, List.setIfInBounds_toArray, List.set_cons_zero, List.set_cons_succ, i64_w, i32_w]
                          rfl
                         refine one_ (i := 0) (N := some 194) zGDecodeSums2_0 rfl rfl (one_of HT_.out (by kernel_rfl)) (by decide) (fun K hK => ?_)
                         refine Kd.R_lit_step (Kd.int .i64) _ 3 ?hg (N := 194) ?hd (xs := ([1, 1] : List Int)) (inner := [.int .i64 1, .int .i64 1]) (ok := fun _ => True) (okp := fun _ => True) ?hr ?hp (fun _ hk => hk) trivial (Below.refl _ _) (Nat.le_refl _) (by simp) ?_; (case hd => rfl); (case hg => rfl); (case hr => first | (go_simp; done) | (go_simp; rfl)); (case hp => exact (Reps.one (show Kd.M (Kd.int .i64) _ _ _ 1 [.int .i64 1] from rfl) (Reps.one (show Kd.M (Kd.int .i64) _ _ _ 1 [.int .i64 1] from rfl) (Reps.none _ _))))
                         intro v186 w112 ho113 hb hg_ hnew_
                         have HS0_ := (hb.cell (World.block_lt_of_cell? _ _ (hHeld.1))).trans (hHeld.1)
                         have HS1_ := (hb.cell (World.block_lt_of_cell? _ _ (hHeld.2))).trans (hHeld.2)
                         clear hg_ hnew_
                         (first | rw [← Ny185.out] at ho113 | (simp only [Int.reduceToNat] at ho113; rw [← Ny185.out] at ho113))
                         have n0_ := mk0 (Kd.R_below (by (with_reducible repeat (first | apply rA | apply rN | apply rD)); exact HO_23.out) hb)
                         have n1_ := mk0 (Kd.R_below (by (with_reducible repeat (first | apply rA | apply rN | apply rD)); exact HO_25.out) hb)
                         have n2_ := mk0 (Kd.R_below (by (with_reducible repeat (first | apply rA | apply rN | apply rD)); exact HO_27.out) hb)
                         have n3_ := mk0 (Kd.R_below (by (with_reducible repeat (first | apply rA | apply rN | apply rD)); exact HO192.out) hb)
                         have n4_ := mk0 (Kd.R_lower ho113 (below_size (by repeat (first | (with_reducible first | exact HB.out | apply lA | apply lN | apply lD | refine lT ?_ ‹_›) | exact HB.out))))
                         have n5_ := mk0 (blk_below (g := gb145) (o := .cells #[.int .i64 (wrap64 (1 + (wrap64 (Int.tmod (IntKind.u64.wrap (a0)) 4)))), .int .i64 2] 51 (0, 0)) (by (with_reducible repeat (first | apply bN | apply bD | apply bA)); exact BK145.out) hb)
                         have n6_ := mk0 (below_step (by repeat (first | (with_reducible first | exact HB.out | apply lA | apply lN | apply lD | refine lT ?_ ‹_›) | exact HB.out)) hb)
                         clear HO_23
                         clear HO_25
                         clear HO_27
                         clear HO192
                         clear BK145
                         clear HB
                         have HO_23 := n0_
                         have HO_25 := n1_
                         have HO_27 := n2_
                         have HO192 := n3_
                         have HO187 := n4_
                         have BK145 := n5_
                         have HB := n6_
                         clear n0_ n1_ n2_ n3_ n4_ n5_ n6_
                         clear hb ho113
                         refine hK.out _ _ ⟨HS0_, HS1_⟩ (fun hHeld => ?_)
                         clear hK K
                         refine norm_ (a' := ?_) ?_ ?_
                         rotate_left
                         ·show Act.put _ (some 194) _ = _
                          simp only [Act.put, List.setIfInBounds_toArray, List.set_cons_zero, List.set_cons_succ, i64_w, i32_w]
                          rfl
                         exact norm_ (by simp only [putAll, Act.put, List.setIfInBounds_toArray, List.set_cons_zero, List.set_cons_succ]) (hCont (v186, v191) _ ⟨hHeld, (by (with_reducible repeat (first | apply rA | apply rN | apply rD)); exact HO187.out), (by (with_reducible repeat (first | apply rA | apply rN | apply rD)); exact Kd.R_mono HO192.out (fun _ hk => ⟨hk.1.1.2, ⟨hk.1.2, hk.2⟩⟩)), (by (with_reducible repeat (first | apply rA | apply rN | apply rD)); exact Kd.R_mono HO_23.out (fun _ hk => ⟨hk.2, ⟨hk.1.1, hk.1.2⟩⟩)), (by (with_reducible repeat (first | apply rA | apply rN | apply rD)); exact Kd.R_mono HO_25.out (fun _ hk => ⟨hk.2, ⟨hk.1.1, hk.1.2⟩⟩)), (by (with_reducible repeat (first | apply rA | apply rN | apply rD)); exact Kd.R_mono HO_27.out (fun _ hk => ⟨hk.2, ⟨hk.1.1, hk.1.2⟩⟩)), (by (with_reducible repeat (first | apply bN | apply bD | apply bA)); exact BK145.out), (by repeat (first | (with_reducible first | exact HB.out | apply lA | apply lN | apply lD | refine lT ?_ ‹_›) | exact HB.out))⟩)
                       rintro ⟨v186, v191⟩ w114 ⟨hS_, h0_, h1_, h2_, h3_, h4_, h5_, h6_⟩
                       have n0_ : Aside0 (Kd.R (Kd.int .i64) 3 w114 w.heap.size (fun _ => True) v186 y185) := ⟨h0_⟩
                       have n1_ : Aside0 (Kd.R Kd.string 9 w114 w.heap.size (fun k_ => some k_ ≠ (.slice (some ad188) t170.length co108 : Value).ownBlock ∧ some k_ ≠ (.slice (some ad189) t174.length co109 : Value).ownBlock ∧ some k_ ≠ (v179 : Value).ownBlock) v191 y190) := ⟨h1_⟩
                       have n2_ : Aside0 (Kd.R Kd.string 9 w114 w.heap.size (fun k_ => some k_ ≠ (v191 : Value).ownBlock ∧ some k_ ≠ (.slice (some ad189) t174.length co109 : Value).ownBlock ∧ some k_ ≠ (v179 : Value).ownBlock) (.slice (some ad188) t170.length co108) t170) := ⟨h2_⟩
                       have n3_ : Aside0 (Kd.R Kd.string 9 w114 w.heap.size (fun k_ => some k_ ≠ (v191 : Value).ownBlock ∧ some k_ ≠ (.slice (some ad188) t170.length co108 : Value).ownBlock ∧ some k_ ≠ (v179 : Value).ownBlock) (.slice (some ad189) t174.length co109) t174) := ⟨h3_⟩
                       have n4_ : Aside0 (Kd.R Kd.string 9 w114 w.heap.size (fun k_ => some k_ ≠ (v191 : Value).ownBlock ∧ some k_ ≠ (.slice (some ad188) t170.length co108 : Value).ownBlock ∧ some k_ ≠ (.slice (some ad189) t174.length co109 : Value).ownBlock) v179 t178) := ⟨h4_⟩
                       have n5_ : Aside0 (w114.heap[gb145]? = some (.cells #[.int .i64 (wrap64 (1 + (wrap64 (Int.tmod (IntKind.u64.wrap (a0)) 4)))), .int .i64 2] 51 (0, 0))) := ⟨h5_⟩
                       have n6_ : Aside0 (Below w.heap.size w w114) := ⟨h6_⟩
                       clear HO_23
                       clear HO_25
                       clear HO_27
                       clear BK145
                       clear HB
                       clear h0_ h1_ h2_ h3_ h4_ h5_ h6_
                       have HO187 := n0_
                       have HO192 := n1_
                       have HO_23 := n2_
                       have HO_25 := n3_
                       have HO_27 := n4_
                       have BK145 := n5_
                       have HB := n6_
                       clear n0_ n1_ n2_ n3_ n4_ n5_ n6_
                       have hHeld : w114.cell? (ad188.add (x29_4).toNat) = some (.string (rdOf ByteArray.empty t170 x29_4)) ∧ w114.cell? (ad189.add (x29_4).toNat) = some (.string (rdOf ByteArray.empty t174 x29_4)) := hS_
                       obtain ⟨Ao115, co115, eo115⟩ := Kd.R_slice HO187.out
                       (first | subst eo115 | (injection eo115 with f1_ f2_ f3_; have f4_ := f1_.symm; have f5_ := f3_.symm; clear f1_ f2_ f3_; subst f4_; subst f5_))
                       obtain ⟨Ao116, co116, eo116⟩ := Kd.R_slice HO192.out
                       (first | subst eo116 | (injection eo116 with f1_ f2_ f3_; have f4_ := f1_.symm; have f5_ := f3_.symm; clear f1_ f2_ f3_; subst f4_; subst f5_))
                       refine norm_ (a' := ?_) ?_ ?_
                       rotate_left
                       ·simp only [putAll, Act.put, List.setIfInBounds_toArray, List.set_cons_zero, List.set_cons_succ]
                        rfl
                       refine one_ (i := 10) (N := some 204) #[true, true, true, true, true, true, true, true, true, true, true, false, false, false, false, false] rfl rfl (one_of HT_.out (by kernel_rfl)) (by decide) (fun K hK => ?_)
                       refine goes_ Try.func58 (by kernel_rfl) rfl #[.slice Ao115 y185.length co115, .slice Ao116 y190.length co116] (by rfl) rfl rfl (by (try simp only [List.map_toArray, List.map_cons, List.map_nil]); first | done | rfl | (simp only [List.length_drop, List.length_take]; rfl)) ?_
                       with_reducible refine (GRef.ossuaryref1_Combine.calls k4 _ _ y185 _ _ y190 t193 t194 _ ?side1 ?side2 ?side3 ?side4 A102.out).mono ?_
                       (case side1 => repeat (first | exact (Kd.R_reads' HO187.out).2.2 | (with_reducible refine Kd.C_alloc ?_ _) | (with_reducible refine Kd.C_drewN ?_ _) | (with_reducible refine Kd.C_drew ?_)))
                       (case side2 => exact (Kd.R_reads' HO187.out).2.1)
                       (case side3 => repeat (first | exact (Kd.R_reads' HO192.out).2.2 | (with_reducible refine Kd.C_alloc ?_ _) | (with_reducible refine Kd.C_drewN ?_ _) | (with_reducible refine Kd.C_drew ?_)))
                       (case side4 => exact (Kd.R_reads' HO192.out).2.1)
                       rintro e w117 ⟨rfl, hb⟩
                       have HS0_ := (hb.cell (World.block_lt_of_cell? _ _ (hHeld.1))).trans (hHeld.1)
                       have HS1_ := (hb.cell (World.block_lt_of_cell? _ _ (hHeld.2))).trans (hHeld.2)
                       refine ⟨_, rfl, ?_⟩
                       have n0_ := mk0 (Kd.R_below (by (with_reducible repeat (first | apply rA | apply rN | apply rD)); exact HO_23.out) hb)
                       have n1_ := mk0 (Kd.R_below (by (with_reducible repeat (first | apply rA | apply rN | apply rD)); exact HO_25.out) hb)
                       have n2_ := mk0 (Kd.R_below (by (with_reducible repeat (first | apply rA | apply rN | apply rD)); exact HO_27.out) hb)
                       have n3_ := mk0 (Kd.R_below (by (with_reducible repeat (first | apply rA | apply rN | apply rD)); exact HO187.out) hb)
                       have n4_ := mk0 (Kd.R_below (by (with_reducible repeat (first | apply rA | apply rN | apply rD)); exact HO192.out) hb)
                       have n5_ := mk0 (blk_below (g := gb145) (o := .cells #[.int .i64 (wrap64 (1 + (wrap64 (Int.tmod (IntKind.u64.wrap (a0)) 4)))), .int .i64 2] 51 (0, 0)) (by (with_reducible repeat (first | apply bN | apply bD | apply bA)); exact BK145.out) hb)
                       have n6_ := mk0 (below_step (by repeat (first | (with_reducible first | exact HB.out | apply lA | apply lN | apply lD | refine lT ?_ ‹_›) | exact HB.out)) hb)
                       clear HO_23
                       clear HO_25
                       clear HO_27
                       clear HO187
                       clear HO192
                       clear BK145
                       clear HB
                       have HO_23 := n0_
                       have HO_25 := n1_
                       have HO_27 := n2_
                       have HO187 := n3_
                       have HO192 := n4_
                       have BK145 := n5_
                       have HB := n6_
                       clear n0_ n1_ n2_ n3_ n4_ n5_ n6_
                       (try clear hb)
                       (try clear hb2)
                       (try clear hk)
                       (try clear hi)
                       refine hK.out _ _ ⟨HS0_, HS1_⟩ (fun hHeld => ?_)
                       clear hK K
                       refine norm_ (a' := ?_) ?_ ?_
                       rotate_left
                       ·show Act.put _ (some 204) _ = _
                        simp only [Act.put, List.setIfInBounds_toArray, List.set_cons_zero, List.set_cons_succ, i64_w, i32_w]
                        rfl
                       refine pure_ (i := 11) (N := some 193) (v := ?_) (a' := ?_) #[true, true, true, true, true, true, true, true, true, true, true, true, false, false, false, false] rfl rfl (any_of HT_.out (by kernel_rfl)) (fun _ _ _ h => h) (Or.inl ⟨by rfl, ?_⟩) ?_ ?_
                       rotate_left
                       ·intro w'
                        go_simp
                        with_reducible rfl
                       rotate_left
                       ·simp only [Act.put, List.setIfInBounds_toArray, List.set_cons_zero, List.set_cons_succ, i64_w, i32_w]
                        rfl
                       refine pure_ (i := 12) (N := some 205) (v := ?_) (a' := ?_) #[true, true, true, true, true, true, true, true, true, true, true, true, true, false, false, false] rfl rfl (any_of HT_.out (by kernel_rfl)) (fun _ _ _ h => h) (Or.inl ⟨by rfl, ?_⟩) ?_ ?_
                       rotate_left
                       ·intro w'
                        go_simp
                        with_reducible rfl
                       rotate_left
                       ·simp only [Act.put, List.setIfInBounds_toArray, List.set_cons_zero, List.set_cons_succ, i64_w, i32_w]
                        rfl
                       refine pure_ (i := 13) (N := some 206) (v := ?_) (a' := ?_) #[true, true, true, true, true, true, true, true, true, true, true, true, true, true, false, false] rfl rfl (any_of HT_.out (by kernel_rfl)) (fun _ _ _ h => h) (Or.inl ⟨by rfl, ?_⟩) ?_ ?_
                       rotate_left
                       ·intro w'
                        go_simp
                        with_reducible rfl
                       rotate_left
                       ·simp only [Act.put, List.setIfInBounds_toArray, List.set_cons_zero, List.set_cons_succ, i64_w, i32_w]
                        rfl
                       refine pure_ (i := 14) (N := some 30) (v := ?_) (a' := ?_) #[true, true, true, true, true, true, true, true, true, true, true, true, true, true, true, false] rfl rfl (any_of HT_.out (by kernel_rfl)) (fun _ _ _ h => h) (Or.inl ⟨by rfl, ?_⟩) ?_ ?_
                       rotate_left
                       ·intro w'
                        go_simp
                        with_reducible rfl
                       rotate_left
                       ·simp only [Act.put, List.setIfInBounds_toArray, List.set_cons_zero, List.set_cons_succ, i64_w, i32_w]
                        rfl
                       refine pure_ (i := 15) (N := some 31) (v := ?_) (a' := ?_) #[true, true, true, true, true, true, true, true, true, true, true, true, true, true, true, true] rfl rfl (any_of HT_.out (by kernel_rfl)) (fun _ _ _ h => h) (Or.inl ⟨by rfl, ?_⟩) ?_ ?_
                       rotate_left
                       ·intro w'
                        go_simp
                        with_reducible rfl
                       rotate_left
                       ·simp only [Act.put, List.setIfInBounds_toArray, List.set_cons_zero, List.set_cons_succ, i64_w, i32_w]
                        rfl
                       refine done_ (done_of HT_.out (by kernel_rfl)) ?_
                       obtain ⟨Ao118, co118, eo118⟩ := Kd.R_slice HO_27.out
                       subst eo118
                       have p195 : 0 ≤ (x29_4 : Int) := of_decide_eq_true (by first | (with_reducible assumption) | assumption)
                       have q195 : x29_4 < (t178.length : Int) := of_decide_eq_true (by first | (with_reducible assumption) | assumption)
                       obtain ⟨ad195, e195, hx195_0⟩ := Kd.at_string (Kd.R_reads' HO_27.out).2.2 x29_4 p195 q195
                       cases e195
                       replace p195 := eq_true p195
                       replace q195 := eq_true q195
                       try go_wp2
                       go_roundg k4
                       case measure => have := HK1.out; have := HK2.out; have := HJ68.out; have := HK4.out; omega
                       case rel => exact ⟨(wrap64 (x29_4 + 1)), (by first | rfl | (simp; done) | (simp [*]; done)), H', ⟨by have := HK1.out; have := HK2.out; have := HJ68.out; have := HK4.out; omega⟩, ⟨by (with_reducible repeat (first | apply rA | apply rN | apply rD)); exact Kd.R_mono HO_23.out (fun _ hk => ⟨hk.2.1, hk.2.2⟩)⟩, ⟨by (with_reducible repeat (first | apply rA | apply rN | apply rD)); exact Kd.R_mono HO_25.out (fun _ hk => ⟨hk.2.1, hk.2.2⟩)⟩, ⟨by (with_reducible repeat (first | apply rA | apply rN | apply rD)); exact Kd.R_mono HO_27.out (fun _ hk => ⟨hk.2.1, hk.2.2⟩)⟩, ⟨by (with_reducible repeat (first | apply bN | apply bD | apply bA)); exact BK145.out⟩, ⟨by repeat (first | (with_reducible first | exact HB.out | apply lA | apply lN | apply lD | refine lT ?_ ‹_›) | exact HB.out)⟩⟩
                      ·rw [if_neg c105] at H
                       have c105b0 : (t193.toList == (rdOf ByteArray.empty t178 x29_4).toList) = false := beq_eq_false_iff_ne.mpr c105
                       have c105b1 : (t193.toList != (rdOf ByteArray.empty t178 x29_4).toList) = true := bne_iff_ne.mpr c105
                       exact absurd ((Option.some.inj H).trans HTrue.out) (by decide)
                     ·rw [if_neg c104] at H
                      exact absurd H (by simp)
                    ·rw [if_neg c103] at H
                     have c103b0 : (t194 == 0) = false := beq_eq_false_iff_ne.mpr c103
                     have c103b1 : (t194 != 0) = true := bne_iff_ne.mpr c103
                     exact absurd ((Option.some.inj H).trans HTrue.out) (by decide)
                   ·rw [if_neg c101] at H
                    exact absurd H (by simp)
                  ·rw [if_neg c100] at H
                   exact absurd H (by simp)
                 ·rw [if_neg c99] at H
                  exact absurd H (by simp)
                ·rw [if_neg c98] at H
                 have c98b0 : decide (x29_4 < (wrap64 (1 + (wrap64 (Int.tmod (IntKind.u64.wrap (a0)) 4))))) = false := decide_eq_false c98
                 clear c98
                 obtain rfl := Option.some.inj H
                 have hcz119_0 : wr.cell? ⟨gb145, 0, none⟩ = some (.int .i64 (wrap64 (1 + (wrap64 (Int.tmod (IntKind.u64.wrap (a0)) 4))))) := (blk_cell BK145.out 0).trans rfl
                 have hcz119_1 : wr.cell? ⟨gb145, 1, none⟩ = some (.int .i64 2) := (blk_cell BK145.out 1).trans rfl
                 have hfz119_0 := blk_frozen BK145.out 0
                 have hfz119_1 := blk_frozen BK145.out 1
                 go_wp2
                 go_ret
                 exact ⟨by first | rfl | (simp [errW_none, errW_some] <;> rfl) | (simp only [← hji8, ← hji9, ← hji10]; first | rfl | (simp [errW_none, errW_some] <;> rfl)) | (simp [*, errW_none, errW_some] <;> rfl), by repeat (first | (with_reducible first | exact HB.out | apply lA | apply lN | apply lD | refine lT ?_ ‹_›) | exact HB.out)⟩
    ·rw [if_neg c12] at H
     exact absurd H (by simp)
   ·rw [if_neg c11] at H
    exact absurd H (by simp)
 ·replace c6 := Bool.eq_false_iff.mpr c6
  subst c6
  have H1 : (some false) = some r := by rw [if_neg (show ¬ (false = true) by decide)] at H; exact H
  clear H
  have H := H1
  clear H1
  exact absurd ((Option.some.inj H).trans HTrue.out) (by decide)

/-- THE ONE PURE STATEMENT of ossuarylaw7_DecodeSums: yours. -/
noncomputable def ossuarylaw7_DecodeSums.Pure : Prop := ∀ (a0 : Int) (a1 : ByteArray) (a2 : ByteArray) (a3 : Int), (Lit.int .i64 a0).wf = true → a1.size ≤ 140737488351232 → a2.size ≤ 140737488351232 → (Lit.int .i64 a3).wf = true → ∃ k, ossuarylaw7_DecodeSums.f k a0 a1 a2 a3 = some true
end Go.Proofs.Ytaahnicjjpddjaa.GDecodeSums
