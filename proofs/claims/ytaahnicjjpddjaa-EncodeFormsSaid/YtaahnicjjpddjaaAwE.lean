/- What every encoder answers that is one: the call's walk, by hand. -/
import Derived.Test.YtaahnicjjpddjaaGEnc1
import Derived.Test.YtaahnicjjpddjaaGVec3
namespace Go.Proofs.Ytaahnicjjpddjaa.AwE
open Go.RowKit Go.Proofs.YtaahnicjjpddjaaW.PrintWords Go.Proofs.YtaahnicjjpddjaaW.PrintLast Go.Proofs.YtaahnicjjpddjaaW.PrintMore Go.Proofs.Ytaahnicjjpddjaa.Fn
set_option linter.unusedVariables false
set_option linter.unusedSimpArgs false
theorem below_all (w : World) (os : List Obj) : Below w.heap.size w (os.foldl World.alloc w) := by
  have h : ∀ (os : List Obj) (W : World), Below w.heap.size w W → Below w.heap.size w (os.foldl World.alloc W) := by
    intro os
    induction os with
    | nil => exact fun _ h => h
    | cons o os ih => exact fun W h => ih _ (lA h o)
  exact h os w (Below.refl _ _)
theorem put_at (w : World) (os : List Obj) (i : Nat) (h : i < os.length) : (os.foldl World.alloc w).heap[w.heap.size + i]? = some os[i] := by
  induction os generalizing w i with
  | nil => simp at h
  | cons o os ih =>
    cases i with
    | zero =>
      have hb := below_all (w.alloc o) os
      exact blk_below (blk_new w o) hb
    | succ i =>
      have := ih (w.alloc o) i (by simpa using h)
      rw [World.size_alloc] at this
      rw [show w.heap.size + (i + 1) = w.heap.size + 1 + i by omega]
      exact this
theorem C_str {w : World} {g t : Nat} (xs : List ByteArray) (h : w.heap[g]? = some (.cells (xs.map Value.string).toArray t (0, 0))) (hn : xs.length ≤ 100) : Kd.C Kd.string w (some ⟨g, 0, none⟩) xs.length xs :=
  Kd.C_of_reads (d := ByteArray.empty) ⟨rfl, by omega, fun _ => ⟨_, rfl, fun j hj => by
    have hc := blk_cell h j
    rw [show (Addr.add ⟨g, 0, none⟩ j) = ⟨g, j, none⟩ from (by simp [Addr.add]; try exact fun h => h.symm), hc, List.getElem?_toArray, List.getElem?_map, List.getElem?_eq_getElem hj, List.getD_eq_getElem?_getD, List.getElem?_eq_getElem hj]
    rfl⟩⟩
def AwE (k : Nat) : Prop := GEnc.encode_Encode.f k 2 1 [(⟨#[97]⟩ : ByteArray), (⟨#[98]⟩ : ByteArray)] = some ([(⟨#[103]⟩ : ByteArray)], 0) ∧ GEnc.encode_Encode.f k 2 1 [(⟨#[97]⟩ : ByteArray)] = some ([], 600) ∧ GEnc.encode_Encode.f k 2 1 [(⟨#[97]⟩ : ByteArray), (⟨#[98, 99]⟩ : ByteArray)] = some ([], 600) ∧ GEnc.encode_Encode.f k 1 0 [(⟨#[]⟩ : ByteArray)] = some ([], 0) ∧ GVec.ossuarylaw0_SameTexts.f k [(⟨#[103]⟩ : ByteArray)] [(⟨#[103]⟩ : ByteArray)] = some true
set_option maxHeartbeats 2000000 in
set_option maxRecDepth 100000 in
theorem calls (k : Nat) (w : World) (h : AwE k) : Calls Try.prog 52 #[] w fun e w' => e = .returned (.bool true) ∧ Below w.heap.size w w' := by
  obtain ⟨h1, h2, h3, h4, h5⟩ := h
  have E1 := mk0 h1
  have E2 := mk0 h2
  have E3 := mk0 h3
  have E4 := mk0 h4
  have E5 := mk0 h5
  have HB := mk0 (Below.refl w.heap.size w)
  clear h1 h2 h3 h4 h5
  go_enter Try.func52, Try.ntmps52
  go_wp2_with (first
    | ((with_reducible refine gCa (f := 48) (xs := #[.tmp 10, .tmp 11]) rfl ?_); refine goesL_ (some 12) rfl rfl Try.func48 (by kernel_rfl) rfl #[.agg #[.int .i64 2, .int .i64 1], .slice (some ⟨w.heap.size, 0, none⟩) 2 2] rfl (by (try simp only [List.map_toArray, List.map_cons, List.map_nil]); first | done | rfl) ?_; refine (GEnc.encode_Encode.calls k 2 1 _ 2 [(⟨#[97]⟩ : ByteArray), (⟨#[98]⟩ : ByteArray)] [(⟨#[103]⟩ : ByteArray)] 0 (w.alloc (.cells #[.string (⟨#[97]⟩ : ByteArray), .string (⟨#[98]⟩ : ByteArray)] 9 (0, 0))) (C_str _ (put_at w [(.cells #[.string (⟨#[97]⟩ : ByteArray), .string (⟨#[98]⟩ : ByteArray)] 9 (0, 0))] 0 (by show 0 < 1; decide)) (by show 2 ≤ 100; decide)) (Nat.le_refl _) E1.out).mono ?_; rintro e W1 ⟨v0, rfl, ho, hb⟩; refine ⟨_, rfl, ?_⟩; obtain ⟨A0, c0, rfl⟩ := Kd.R_slice ho; have n0_ := mk0 (below_step (lA HB.out _) hb); clear HB; have HB := n0_; clear n0_; have SA := mk0 ho; clear ho hb)
    | ((with_reducible refine gCa (f := 48) (xs := #[.tmp 16, .tmp 17]) rfl ?_); refine goesL_ (some 18) rfl rfl Try.func48 (by kernel_rfl) rfl #[.agg #[.int .i64 2, .int .i64 1], .slice (some ⟨W1.heap.size, 0, none⟩) 1 1] rfl (by (try simp only [List.map_toArray, List.map_cons, List.map_nil]); first | done | rfl) ?_; refine (GEnc.encode_Encode.calls k 2 1 _ 1 [(⟨#[97]⟩ : ByteArray)] [] 600 (W1.alloc (.cells #[.string (⟨#[97]⟩ : ByteArray)] 9 (0, 0))) (C_str _ (put_at W1 [(.cells #[.string (⟨#[97]⟩ : ByteArray)] 9 (0, 0))] 0 (by show 0 < 1; decide)) (by show 1 ≤ 100; decide)) (Nat.le_refl _) E2.out).mono ?_; rintro e W2 ⟨v1, rfl, ho, hb⟩; refine ⟨_, rfl, ?_⟩; obtain ⟨A1, c1, rfl⟩ := Kd.R_slice ho; have n0_ := mk0 (below_step (lA HB.out _) hb); clear HB; have HB := n0_; clear n0_; have n1_ := mk0 (Kd.R_below (rA SA.out _) hb); clear SA; have SA := n1_; clear n1_ ho hb)
    | ((with_reducible refine gCa (f := 48) (xs := #[.tmp 22, .tmp 23]) rfl ?_); refine goesL_ (some 24) rfl rfl Try.func48 (by kernel_rfl) rfl #[.agg #[.int .i64 2, .int .i64 1], .slice (some ⟨W2.heap.size, 0, none⟩) 2 2] rfl (by (try simp only [List.map_toArray, List.map_cons, List.map_nil]); first | done | rfl) ?_; refine (GEnc.encode_Encode.calls k 2 1 _ 2 [(⟨#[97]⟩ : ByteArray), (⟨#[98, 99]⟩ : ByteArray)] [] 600 (W2.alloc (.cells #[.string (⟨#[97]⟩ : ByteArray), .string (⟨#[98, 99]⟩ : ByteArray)] 9 (0, 0))) (C_str _ (put_at W2 [(.cells #[.string (⟨#[97]⟩ : ByteArray), .string (⟨#[98, 99]⟩ : ByteArray)] 9 (0, 0))] 0 (by show 0 < 1; decide)) (by show 2 ≤ 100; decide)) (Nat.le_refl _) E3.out).mono ?_; rintro e W3 ⟨v2, rfl, ho, hb⟩; refine ⟨_, rfl, ?_⟩; obtain ⟨A2, c2, rfl⟩ := Kd.R_slice ho; have n0_ := mk0 (below_step (lA HB.out _) hb); clear HB; have HB := n0_; clear n0_; have n1_ := mk0 (Kd.R_below (rA SA.out _) hb); clear SA; have SA := n1_; clear n1_ ho hb)
    | ((with_reducible refine gCa (f := 48) (xs := #[.tmp 28, .tmp 29]) rfl ?_); refine goesL_ (some 30) rfl rfl Try.func48 (by kernel_rfl) rfl #[.agg #[.int .i64 1, .int .i64 0], .slice (some ⟨W3.heap.size, 0, none⟩) 1 1] rfl (by (try simp only [List.map_toArray, List.map_cons, List.map_nil]); first | done | rfl) ?_; refine (GEnc.encode_Encode.calls k 1 0 _ 1 [(⟨#[]⟩ : ByteArray)] [] 0 (W3.alloc (.cells #[.string (⟨#[]⟩ : ByteArray)] 9 (0, 0))) (C_str _ (put_at W3 [(.cells #[.string (⟨#[]⟩ : ByteArray)] 9 (0, 0))] 0 (by show 0 < 1; decide)) (by show 1 ≤ 100; decide)) (Nat.le_refl _) E4.out).mono ?_; rintro e W4 ⟨v3, rfl, ho, hb⟩; refine ⟨_, rfl, ?_⟩; obtain ⟨A3, c3, rfl⟩ := Kd.R_slice ho; have n0_ := mk0 (below_step (lA HB.out _) hb); clear HB; have HB := n0_; clear n0_; have n1_ := mk0 (Kd.R_below (rA SA.out _) hb); clear SA; have SA := n1_; clear n1_ ho hb)
    | ((with_reducible refine gCa (f := 50) rfl ?_); refine goesL_ (some 35) rfl rfl Try.func50 (by kernel_rfl) rfl #[.slice A0 1 c0, .slice (some ⟨W4.heap.size, 0, none⟩) 1 1] rfl (by (try simp only [List.map_toArray, List.map_cons, List.map_nil]); first | done | rfl) ?_; refine (GVec.ossuarylaw0_SameTexts.calls k _ _ [(⟨#[103]⟩ : ByteArray)] _ 1 [(⟨#[103]⟩ : ByteArray)] true (W4.alloc (.cells #[.string (⟨#[103]⟩ : ByteArray)] 9 (0, 0))) (Kd.R_reads' (rA SA.out _)).2.2 (Kd.R_reads' SA.out).2.1 (C_str _ (put_at W4 [(.cells #[.string (⟨#[103]⟩ : ByteArray)] 9 (0, 0))] 0 (by show 0 < 1; decide)) (by show 1 ≤ 100; decide)) (Nat.le_refl _) E5.out).mono ?_; rintro e w6 ⟨rfl, ⟨nd, rfl⟩⟩; refine ⟨_, rfl, ?_⟩)
    | (go_at_call 35; (with_reducible refine (GBase.ossuarylaw0_Num.calls 0 0 _ rfl).mono ?_); rintro e w7 ⟨rfl, ⟨nd2, rfl⟩⟩)
    | (go_at_call 35; (with_reducible refine (GBase.ossuarylaw0_Num.calls 600 600 _ rfl).mono ?_); rintro e w7 ⟨rfl, ⟨nd2, rfl⟩⟩))
  go_ret
  exact ⟨rfl, by repeat (first | exact HB.out | apply lN | apply lA | apply lD)⟩
end Go.Proofs.Ytaahnicjjpddjaa.AwE
