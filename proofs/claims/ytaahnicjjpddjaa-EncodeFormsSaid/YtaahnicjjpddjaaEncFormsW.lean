/- The law of the forms that encoding refuses: the call's walk, by hand. -/
import Derived.Test.YtaahnicjjpddjaaAwE
import Derived.Test.YtaahnicjjpddjaaMany
namespace Go.Proofs.Ytaahnicjjpddjaa.EncF
open Go.RowKit Go.Proofs.YtaahnicjjpddjaaW.PrintWords Go.Proofs.YtaahnicjjpddjaaW.PrintLast Go.Proofs.YtaahnicjjpddjaaW.PrintMore Go.Proofs.Ytaahnicjjpddjaa.Fn Go.Proofs.Ytaahnicjjpddjaa.Many
set_option linter.unusedVariables false
set_option linter.unusedSimpArgs false

theorem encf_info5 : (Try.prog.info? 5).map (fun i => (i.zero, i.size, i.bytes)) = some (some (.int .u8 0), 1, 1) := by kernel_rfl
theorem encf_info9 : (Try.prog.info? 9).map (fun i => (i.zero, i.size, i.bytes)) = some (some (.string ByteArray.empty), 1, 16) := by kernel_rfl
theorem made_rep (z : Value) (n : Nat) : madeCells #[z] n = (List.replicate n z).toArray := by
  unfold madeCells
  apply Array.ext
  · simp
  · intro i h1 h2
    have : i % 1 = 0 := Nat.mod_one i
    simp [this]
theorem cv_zero {P : Program} {w : World} {g : Nat} {src dst e : TypeId} (hs : P.underlying src = some (.slice e)) (he : P.underlying e = some (.int .u8)) (hd : P.underlying dst = some .string) (k : Nat) (hk : k ≤ maxLen) {t : TypeId} (h : w.heap[g]? = some (.cells (madeCells #[.int .u8 0] k) t (0, 0))) :
    (convert src dst (.slice (some ⟨g, 0, none⟩) k k)).run P w = .ok (.string (strOfNums (List.replicate k 0))) w := by
  refine own_string (base := 0) (e' := t) (n := k) hs he hd ⟨by simp [nums], Or.inr ⟨g, k, _, rfl, Nat.zero_le _, h, Nat.le_refl _, hk, by simp [made_rep], ?_⟩⟩
  rw [made_rep]
  simp [nums]
theorem C_strs {w : World} {g t : Nat} (xs : List ByteArray) (h : w.heap[g]? = some (.cells (xs.map Value.string).toArray t (0, 0))) (hn : xs.length ≤ 20000) : Kd.C Kd.string w (some ⟨g, 0, none⟩) xs.length xs :=
  Kd.C_of_reads (d := ByteArray.empty) ⟨rfl, by omega, fun _ => ⟨_, rfl, fun j hj => by
    have hc := blk_cell h j
    rw [show (Addr.add ⟨g, 0, none⟩ j) = ⟨g, j, none⟩ from (by simp [Addr.add]; try exact fun h => h.symm), hc, List.getElem?_toArray, List.getElem?_map, List.getElem?_eq_getElem hj, List.getD_eq_getElem?_getD, List.getElem?_eq_getElem hj]
    rfl⟩⟩
theorem call_len {P : Program} {f : FuncId} {x : Value} {A : Option Addr} {n m c : Nat} {w : World} {K : Ending → World → Prop} (h : Calls P f #[x, .slice A n c] w K) (e : n = m) : Calls P f #[x, .slice A m c] w K := e ▸ h
def encf_sp (c n n4 : Int) (L : ByteArray) : Array Sp := #[Sp.blk [] (2) (fun vs => .cells #[.string (⟨#[97]⟩ : ByteArray), .string (⟨#[98]⟩ : ByteArray)] 9 (0, 0)),
  Sp.blk [] (1) (fun vs => .cells #[.string (⟨#[97]⟩ : ByteArray)] 9 (0, 0)),
  Sp.blk [] (2) (fun vs => .cells #[.string (⟨#[97]⟩ : ByteArray), .string (⟨#[]⟩ : ByteArray)] 9 (0, 0)),
  Sp.eq [] (fun vs => .int .i64 c),
  Sp.eq [3] (fun vs => .int .i64 n),
  Sp.blk [4] (n.toNat) (fun vs => .cells (madeCells #[.int .u8 0] n.toNat) 5 (0, 0)),
  Sp.eq [5] (fun vs => .string L),
  Sp.blk [6] (1) (fun vs => .cells #[.string L] 9 (0, 0)),
  Sp.eq [] (fun vs => .int .i64 c),
  Sp.eq [8] (fun vs => .int .i64 n4),
  Sp.blk [9] (n4.toNat) (fun vs => .cells (madeCells #[.string ByteArray.empty] n4.toNat) 9 (0, 0)),
  Sp.blk [0, 1, 2, 7, 10] (6) (fun vs => .cells #[.slice none 0 0, vs.getD 0 undef, vs.getD 1 undef, vs.getD 2 undef, vs.getD 3 undef, vs.getD 4 undef] 58 (0, 0)),
  Sp.eq [11] (fun vs => vs.getD 0 undef)]
def encf_D : Array (List Nat) := #[[], [], [], [], [3], [4], [5], [6], [], [8], [9], [0, 1, 2, 7, 10], [11]]
def encf_L : List Tmp := [25, 26, 27, 28, 29, 30, 31, 32, 33, 34, 35, 36, 7]
def encf7_T : Bool × List (List Nat × List Nat) := (true, [([], []), ([], []), ([0, 1], [0, 1]), ([2], [2]), ([], []), ([], []), ([4, 5], [4, 5]), ([6], [6]), ([3, 7], [3, 7]), ([8], [8]), ([9], [9]), ([9], [9]), ([10, 8, 0, 1, 2, 3, 4, 5, 6, 7, 8, 9, 10], [10]), ([11, 12, 0, 1, 2, 3, 4, 5, 6, 7, 8, 9, 10, 11, 12], [11])])
def encf7_B : List Nat := [0, 0, 3, 7, 0, 0, 48, 112, 255, 511, 1023, 1023, 2047, 8191]
theorem encf7_tab : rtab .any (opsOf Try.f17 7) = encf7_T := by kernel_rfl
theorem encf7_bits : waitsOk encf7_T.2 encf7_B = true := by kernel_rfl
abbrev encf7_q0 : Array Bool := #[false, false, false, false, false, false, false, false, false, false, false, false, false, false]
abbrev encf7_q1 : Array Bool := #[true, false, false, false, false, false, false, false, false, false, false, false, false, false]
abbrev encf7_q2 : Array Bool := #[true, true, false, false, false, false, false, false, false, false, false, false, false, false]
abbrev encf7_q3 : Array Bool := #[true, true, true, false, false, false, false, false, false, false, false, false, false, false]
abbrev encf7_q4 : Array Bool := #[true, true, true, false, true, false, false, false, false, false, false, false, false, false]
abbrev encf7_q5 : Array Bool := #[true, true, true, false, true, true, false, false, false, false, false, false, false, false]
abbrev encf7_q6 : Array Bool := #[true, true, true, false, true, true, true, false, false, false, false, false, false, false]
abbrev encf7_q7 : Array Bool := #[true, true, true, true, true, true, true, false, false, false, false, false, false, false]
abbrev encf7_q8 : Array Bool := #[true, true, true, true, true, true, true, true, false, false, false, false, false, false]
abbrev encf7_q9 : Array Bool := #[true, true, true, true, true, true, true, true, true, false, false, false, false, false]
abbrev encf7_q10 : Array Bool := #[true, true, true, true, true, true, true, true, true, true, false, false, false, false]
abbrev encf7_q11 : Array Bool := #[true, true, true, true, true, true, true, true, true, true, true, false, false, false]
abbrev encf7_q12 : Array Bool := #[true, true, true, true, true, true, true, true, true, true, true, true, false, false]
abbrev encf7_q13 : Array Bool := #[true, true, true, true, true, true, true, true, true, true, true, true, true, false]
abbrev encf7_q14 : Array Bool := #[true, true, true, true, true, true, true, true, true, true, true, true, true, true]
set_option maxHeartbeats 8000000 in
set_option maxRecDepth 100000 in
theorem walk (k : Nat) (r a0 a1 b c n n4 : Int) (L : ByteArray) (w : World) (h5 : AwE.AwE k) (hb : Go.bits .and .i64 a1 1023 = b) (hk : wrap64 (Int.tmod (IntKind.u64.wrap a0) 6) = r) (hr : r = 0 ∨ r = 1 ∨ r = 2 ∨ r = 3 ∨ r = 4 ∨ r = 5) (hb1 : wrap64 (1 + b) = c) (hn : wrap64 (4096 + c) = n) (hn4 : wrap64 (4 + c) = n4)
    (hn0 : 0 ≤ n) (hn1 : n ≤ 10000) (hm0 : 0 ≤ n4) (hm1 : n4 ≤ 10000) (hL : strOfNums (List.replicate n.toNat 0) = L)
    (e0 : GEnc.encode_Encode.f k 0 0 ([] : List ByteArray) = some ([], 600)) (e1 : GEnc.encode_Encode.f k 2 3 [(⟨#[97]⟩ : ByteArray), (⟨#[98]⟩ : ByteArray)] = some ([], 600)) (e2 : GEnc.encode_Encode.f k 2 1 [(⟨#[97]⟩ : ByteArray)] = some ([], 600)) (e3 : GEnc.encode_Encode.f k 2 1 [(⟨#[97]⟩ : ByteArray), (⟨#[]⟩ : ByteArray)] = some ([], 600)) (e4 : GEnc.encode_Encode.f k 1 1 [L] = some ([], 600)) (e5 : GEnc.encode_Encode.f k n4 0 (List.replicate n4.toNat ByteArray.empty) = some ([], 600)) :
    Calls Try.prog 17 #[.int .i64 a0, .int .i64 a1] w fun e w' => e = .returned (.bool true) ∧ Below w.heap.size w w' := by
  have hu51 := Try.underlying51
  have A5 := mk0 h5
  have E0 := mk0 e0
  have E1 := mk0 e1
  have E2 := mk0 e2
  have E3 := mk0 e3
  have E4 := mk0 e4
  have E5 := mk0 e5
  clear e0 e1 e2 e3 e4 e5
  have HB := mk0 (Below.refl w.heap.size w)
  clear h5
  go_enter Try.func17, Try.ntmps17
  go_wp2_with (first
    | ((with_reducible refine gCa (f := 52) rfl ?_); refine goesL_ (some 11) rfl rfl Try.func52 (by kernel_rfl) rfl #[] rfl (by (try simp only [List.map_toArray, List.map_nil]); first | done | rfl) ?_; (with_reducible refine (AwE.calls k _ A5.out).mono ?_); rintro e w1 ⟨rfl, hb⟩; refine ⟨_, rfl, ?_⟩; have n0_ := mk0 (below_step HB.out hb); clear HB; have HB := n0_; clear n0_ hb))
  rw [hb1]
  rw [hn4]
  refine many_ (encf_sp c n n4 L) encf_D encf_L 13 ?tm (by kernel_rfl) rfl rfl (by kernel_rfl) (by kernel_rfl) ?hf ?hstep ?hend
  case hf => intro val; simp only [encf_L, fillL, List.setIfInBounds_toArray, List.set_cons_zero, List.set_cons_succ, Nat.reduceAdd]; rfl
  case hstep =>
    refine all_succ ?_ ?s12
    refine all_succ ?_ ?s11
    refine all_succ ?_ ?s10
    refine all_succ ?_ ?s9
    refine all_succ ?_ ?s8
    refine all_succ ?_ ?s7
    refine all_succ ?_ ?s6
    refine all_succ ?_ ?s5
    refine all_succ ?_ ?s4
    refine all_succ ?_ ?s3
    refine all_succ ?_ ?s2
    refine all_succ ?_ ?s1
    refine all_succ ?_ ?s0
    exact all_zero
    case s0 =>
      refine stepAt_of rfl rfl rfl rfl (fun val w' hB h => ?_)
      refine does_value (v := ?_) (w1 := ?_) ?_ ?_
      rotate_left 2
      · go_simp
        first | (with_reducible rfl) | (constructor; (· rfl); (· rfl)) | rfl
      refine ⟨lA (Below.refl _ _) _, _, rfl, (blk_new _ _).trans ?_⟩
      first
        | rfl
        | (show some _ = some ((fun vs : List Value => (.cells #[.string (⟨#[97]⟩ : ByteArray), .string (⟨#[98]⟩ : ByteArray)] 9 (0, 0) : Obj)) ([].map val)); simp only [List.map_cons, List.map_nil, List.getD_cons_zero, List.getD_cons_succ, i64_w, hn, hn4]; done)
        | (show some _ = some ((fun vs : List Value => (.cells #[.string (⟨#[97]⟩ : ByteArray), .string (⟨#[98]⟩ : ByteArray)] 9 (0, 0) : Obj)) ([].map val)); simp only [List.map_cons, List.map_nil, List.getD_cons_zero, List.getD_cons_succ, i64_w, hn, hn4]; rfl)
    case s1 =>
      refine stepAt_of rfl rfl rfl rfl (fun val w' hB h => ?_)
      refine does_value (v := ?_) (w1 := ?_) ?_ ?_
      rotate_left 2
      · go_simp
        first | (with_reducible rfl) | (constructor; (· rfl); (· rfl)) | rfl
      refine ⟨lA (Below.refl _ _) _, _, rfl, (blk_new _ _).trans ?_⟩
      first
        | rfl
        | (show some _ = some ((fun vs : List Value => (.cells #[.string (⟨#[97]⟩ : ByteArray)] 9 (0, 0) : Obj)) ([].map val)); simp only [List.map_cons, List.map_nil, List.getD_cons_zero, List.getD_cons_succ, i64_w, hn, hn4]; done)
        | (show some _ = some ((fun vs : List Value => (.cells #[.string (⟨#[97]⟩ : ByteArray)] 9 (0, 0) : Obj)) ([].map val)); simp only [List.map_cons, List.map_nil, List.getD_cons_zero, List.getD_cons_succ, i64_w, hn, hn4]; rfl)
    case s2 =>
      refine stepAt_of rfl rfl rfl rfl (fun val w' hB h => ?_)
      refine does_value (v := ?_) (w1 := ?_) ?_ ?_
      rotate_left 2
      · go_simp
        first | (with_reducible rfl) | (constructor; (· rfl); (· rfl)) | rfl
      refine ⟨lA (Below.refl _ _) _, _, rfl, (blk_new _ _).trans ?_⟩
      first
        | rfl
        | (show some _ = some ((fun vs : List Value => (.cells #[.string (⟨#[97]⟩ : ByteArray), .string (⟨#[]⟩ : ByteArray)] 9 (0, 0) : Obj)) ([].map val)); simp only [List.map_cons, List.map_nil, List.getD_cons_zero, List.getD_cons_succ, i64_w, hn, hn4]; done)
        | (show some _ = some ((fun vs : List Value => (.cells #[.string (⟨#[97]⟩ : ByteArray), .string (⟨#[]⟩ : ByteArray)] 9 (0, 0) : Obj)) ([].map val)); simp only [List.map_cons, List.map_nil, List.getD_cons_zero, List.getD_cons_succ, i64_w, hn, hn4]; rfl)
    case s3 =>
      refine stepAt_of rfl rfl rfl rfl (fun val w' hB h => ?_)
      refine does_value (v := ?_) (w1 := ?_) ?_ ?_
      rotate_left 2
      · go_simp
        first | (with_reducible rfl) | (constructor; (· rfl); (· rfl)) | rfl
      refine ⟨Below.refl _ _, ?_⟩
      first
        | rfl
        | (show _ = (fun vs : List Value => (.int .i64 c : Value)) ([].map val); simp only [List.map_cons, List.map_nil, List.getD_cons_zero, List.getD_cons_succ, i64_w, hn, hn4]; done)
        | (show _ = (fun vs : List Value => (.int .i64 c : Value)) ([].map val); simp only [List.map_cons, List.map_nil, List.getD_cons_zero, List.getD_cons_succ, i64_w, hn, hn4]; rfl)
    case s4 =>
      refine stepAt_of rfl rfl rfl rfl (fun val w' hB h => ?_)
      have q3 : val 3 = (fun vs : List Value => .int .i64 c) ([].map val) := h 3 (by decide) _ rfl
      simp only [List.map_cons, List.map_nil] at q3
      refine does_value (v := ?_) (w1 := ?_) ?_ ?_
      rotate_left 2
      · go_simp
        first | (with_reducible rfl) | (constructor; (· rfl); (· rfl)) | rfl
      refine ⟨Below.refl _ _, ?_⟩
      first
        | rfl
        | (show _ = (fun vs : List Value => (.int .i64 n : Value)) ([3].map val); simp only [List.map_cons, List.map_nil, List.getD_cons_zero, List.getD_cons_succ, i64_w, q3, hn, hn4]; done)
        | (show _ = (fun vs : List Value => (.int .i64 n : Value)) ([3].map val); simp only [List.map_cons, List.map_nil, List.getD_cons_zero, List.getD_cons_succ, i64_w, q3, hn, hn4]; rfl)
    case s5 =>
      refine stepAt_of rfl rfl rfl rfl (fun val w' hB h => ?_)
      obtain ⟨i5_, hi_, hz_, hs_, hy_⟩ := info_parts encf_info5
      have q4 : val 4 = (fun vs : List Value => .int .i64 n) ([3].map val) := h 4 (by decide) _ rfl
      simp only [List.map_cons, List.map_nil] at q4
      have hk_ := run_make (P := Try.prog) w' 66 5 i5_ (.int .u8 0) Try.underlying66 hi_ hz_ .i64 .i64 n n (by omega) (Int.le_refl _) (by rw [hy_]; omega) (by omega)
      rw [hs_, Nat.mul_one] at hk_
      refine does_value (v := ?_) (w1 := ?_) ?_ ?_
      rotate_left 2
      · go_simp
        constructor <;> rfl
      exact ⟨lA (Below.refl _ _) _, _, rfl, blk_new _ _⟩
    case s6 =>
      refine stepAt_of rfl rfl rfl rfl (fun val w' hB h => ?_)
      obtain ⟨g5, q5, m5⟩ := h 5 (by decide) _ rfl
      have hcv := cv_zero (P := Try.prog) Try.underlying66 Try.underlying5 Try.underlying9 n.toNat (by simp [maxLen]; omega) m5
      rw [hL] at hcv
      refine does_value (v := ?_) (w1 := ?_) ?_ ?_
      rotate_left 2
      · go_simp
        constructor <;> rfl
      exact ⟨Below.refl _ _, rfl⟩
    case s7 =>
      refine stepAt_of rfl rfl rfl rfl (fun val w' hB h => ?_)
      have q6 : val 6 = (fun vs : List Value => .string L) ([5].map val) := h 6 (by decide) _ rfl
      simp only [List.map_cons, List.map_nil] at q6
      refine does_value (v := ?_) (w1 := ?_) ?_ ?_
      rotate_left 2
      · go_simp
        first | (with_reducible rfl) | (constructor; (· rfl); (· rfl)) | rfl
      refine ⟨lA (Below.refl _ _) _, _, rfl, (blk_new _ _).trans ?_⟩
      first
        | rfl
        | (show some _ = some ((fun vs : List Value => (.cells #[.string L] 9 (0, 0) : Obj)) ([6].map val)); simp only [List.map_cons, List.map_nil, List.getD_cons_zero, List.getD_cons_succ, i64_w, q6, hn, hn4]; done)
        | (show some _ = some ((fun vs : List Value => (.cells #[.string L] 9 (0, 0) : Obj)) ([6].map val)); simp only [List.map_cons, List.map_nil, List.getD_cons_zero, List.getD_cons_succ, i64_w, q6, hn, hn4]; rfl)
    case s8 =>
      refine stepAt_of rfl rfl rfl rfl (fun val w' hB h => ?_)
      refine does_value (v := ?_) (w1 := ?_) ?_ ?_
      rotate_left 2
      · go_simp
        first | (with_reducible rfl) | (constructor; (· rfl); (· rfl)) | rfl
      refine ⟨Below.refl _ _, ?_⟩
      first
        | rfl
        | (show _ = (fun vs : List Value => (.int .i64 c : Value)) ([].map val); simp only [List.map_cons, List.map_nil, List.getD_cons_zero, List.getD_cons_succ, i64_w, hn, hn4]; done)
        | (show _ = (fun vs : List Value => (.int .i64 c : Value)) ([].map val); simp only [List.map_cons, List.map_nil, List.getD_cons_zero, List.getD_cons_succ, i64_w, hn, hn4]; rfl)
    case s9 =>
      refine stepAt_of rfl rfl rfl rfl (fun val w' hB h => ?_)
      have q8 : val 8 = (fun vs : List Value => .int .i64 c) ([].map val) := h 8 (by decide) _ rfl
      simp only [List.map_cons, List.map_nil] at q8
      refine does_value (v := ?_) (w1 := ?_) ?_ ?_
      rotate_left 2
      · go_simp
        first | (with_reducible rfl) | (constructor; (· rfl); (· rfl)) | rfl
      refine ⟨Below.refl _ _, ?_⟩
      first
        | rfl
        | (show _ = (fun vs : List Value => (.int .i64 n4 : Value)) ([8].map val); simp only [List.map_cons, List.map_nil, List.getD_cons_zero, List.getD_cons_succ, i64_w, q8, hn, hn4]; done)
        | (show _ = (fun vs : List Value => (.int .i64 n4 : Value)) ([8].map val); simp only [List.map_cons, List.map_nil, List.getD_cons_zero, List.getD_cons_succ, i64_w, q8, hn, hn4]; rfl)
    case s10 =>
      refine stepAt_of rfl rfl rfl rfl (fun val w' hB h => ?_)
      obtain ⟨i9_, hi_, hz_, hs_, hy_⟩ := info_parts encf_info9
      have q9 : val 9 = (fun vs : List Value => .int .i64 n4) ([8].map val) := h 9 (by decide) _ rfl
      simp only [List.map_cons, List.map_nil] at q9
      have hk_ := run_make (P := Try.prog) w' 58 9 i9_ (.string ByteArray.empty) Try.underlying58 hi_ hz_ .i64 .i64 n4 n4 (by omega) (Int.le_refl _) (by rw [hy_]; omega) (by omega)
      rw [hs_, Nat.mul_one] at hk_
      refine does_value (v := ?_) (w1 := ?_) ?_ ?_
      rotate_left 2
      · go_simp
        constructor <;> rfl
      exact ⟨lA (Below.refl _ _) _, _, rfl, blk_new _ _⟩
    case s11 =>
      refine stepAt_of rfl rfl rfl rfl (fun val w' hB h => ?_)
      obtain ⟨g0, q0, _⟩ := h 0 (by decide) _ rfl
      obtain ⟨g1, q1, _⟩ := h 1 (by decide) _ rfl
      obtain ⟨g2, q2, _⟩ := h 2 (by decide) _ rfl
      obtain ⟨g7, q7, _⟩ := h 7 (by decide) _ rfl
      obtain ⟨g10, q10, _⟩ := h 10 (by decide) _ rfl
      refine does_value (v := ?_) (w1 := ?_) ?_ ?_
      rotate_left 2
      · go_simp
        first | (with_reducible rfl) | (constructor; (· rfl); (· rfl)) | rfl
      refine ⟨lA (Below.refl _ _) _, _, rfl, (blk_new _ _).trans ?_⟩
      first
        | rfl
        | (show some _ = some ((fun vs : List Value => (.cells #[.slice none 0 0, vs.getD 0 undef, vs.getD 1 undef, vs.getD 2 undef, vs.getD 3 undef, vs.getD 4 undef] 58 (0, 0) : Obj)) ([0, 1, 2, 7, 10].map val)); simp only [List.map_cons, List.map_nil, List.getD_cons_zero, List.getD_cons_succ, i64_w, q0, q1, q2, q7, q10, hn, hn4]; done)
        | (show some _ = some ((fun vs : List Value => (.cells #[.slice none 0 0, vs.getD 0 undef, vs.getD 1 undef, vs.getD 2 undef, vs.getD 3 undef, vs.getD 4 undef] 58 (0, 0) : Obj)) ([0, 1, 2, 7, 10].map val)); simp only [List.map_cons, List.map_nil, List.getD_cons_zero, List.getD_cons_succ, i64_w, q0, q1, q2, q7, q10, hn, hn4]; rfl)
    case s12 =>
      refine stepAt_of rfl rfl rfl rfl (fun val w' hB h => ?_)
      obtain ⟨g11, q11, _⟩ := h 11 (by decide) _ rfl
      refine does_value (v := ?_) (w1 := ?_) ?_ ?_
      rotate_left 2
      · go_simp
        first | (with_reducible rfl) | (constructor; (· rfl); (· rfl)) | rfl
      refine ⟨Below.refl _ _, ?_⟩
      first
        | rfl
        | (show _ = (fun vs : List Value => (vs.getD 0 undef : Value)) ([11].map val); simp only [List.map_cons, List.map_nil, List.getD_cons_zero, List.getD_cons_succ, i64_w, q11, hn, hn4]; done)
        | (show _ = (fun vs : List Value => (vs.getD 0 undef : Value)) ([11].map val); simp only [List.map_cons, List.map_nil, List.getD_cons_zero, List.getD_cons_succ, i64_w, q11, hn, hn4]; rfl)
  case hend =>
    intro val W hB h
    have q12 : val 12 = (fun vs : List Value => (vs.getD 0 undef : Value)) ([11].map val) := h 12 (by decide) _ rfl
    obtain ⟨g11, q11, m11⟩ := (show ∃ g, val 11 = .slice (some ⟨g, 0, none⟩) 6 6 ∧ W.heap[g]? = some (.cells #[.slice none 0 0, val 0, val 1, val 2, val 7, val 10] 58 (0, 0)) from h 11 (by decide) _ rfl)
    obtain ⟨g0, q0, m0⟩ := h 0 (by decide) _ rfl
    obtain ⟨g1, q1, m1⟩ := h 1 (by decide) _ rfl
    obtain ⟨g2, q2, m2⟩ := h 2 (by decide) _ rfl
    obtain ⟨g7, q7_, m7⟩ := h 7 (by decide) _ rfl
    obtain ⟨g10, q10, m10⟩ := h 10 (by decide) _ rfl
    rw [q0, q1, q2, q7_, q10] at m11
    simp only [List.map_cons, List.map_nil, List.getD_cons_zero, q11] at q12
    have o0 := (hB.block w1.heap.size (by show w1.heap.size < (w1.alloc _).heap.size; rw [World.size_alloc]; omega)).trans (blk_new w1 _)
    have hBW : Below w1.heap.size w1 W := (lA (Below.refl _ _) _).trans ((undrew hB).mono (by show w1.heap.size ≤ (w1.alloc _).heap.size; rw [World.size_alloc]; omega))
    have N0 := mk0 m0
    have N1 := mk0 m1
    have N2 := mk0 m2
    have N7 := mk0 m7
    have N10 := mk0 m10
    have N11 := mk0 m11
    have O0 := mk0 o0
    have HBW := mk0 (below_step HB.out hBW)
    clear h hB m0 m1 m2 m7 m10 m11 o0 hBW HB q0 q1 q2 q7_ q10 q11
    rw [q12]
    clear q12
    go_wp2
    clear hb hb1 hn hn4 hn0 hn1 hL hm0 hk
    rcases hr with rfl | rfl | rfl | rfl | rfl | rfl
    ·
      have hx0 : W.cell? ⟨w1.heap.size, 0, none⟩ = some (.int .i64 0) := blk_cell O0.out 0
      have hx1 : W.cell? ⟨w1.heap.size, 1, none⟩ = some (.int .i64 0) := blk_cell O0.out 1
      have hx2 : W.cell? ⟨g11, 0, none⟩ = some (.slice none 0 0) := blk_cell N11.out 0
      have HM := mk0 (show Kd.C Kd.string W none 0 ([] : List ByteArray) from Kd.C_nil _ _)
      clear O0 N0 N1 N2 N7 N10 N11
      refine start_ (n := 14) (S := fun w' => w'.cell? ⟨w1.heap.size, 0, none⟩ = some (.int .i64 0) ∧ w'.cell? ⟨w1.heap.size, 1, none⟩ = some (.int .i64 0) ∧ w'.cell? ⟨g11, 0, none⟩ = some (.slice none 0 0)) (ds := []) encf7_q0 (by kernel_rfl) rfl rfl ⟨hx0, hx1, hx2⟩ (fun hHeld => ?_); refine with_tabW encf7_tab encf7_bits (fun HT_ HW_ => ?_)
      replace HM := mk0 (Kd.C_drew HM.out)
      replace HBW := mk0 (lD HBW.out)
      clear hx0 hx1 hx2
      generalize W.drew = W2 at HM HBW hHeld ⊢
      refine pure_ (i := 0) (N := some 42) (v := ?_) (a' := ?_) encf7_q1 rfl rfl (any_of HT_.out (by kernel_rfl)) (fun _ _ _ h => h) (Or.inl ⟨by rfl, ?_⟩) ?_ ?_
      rotate_left
      · intro w'
        go_simp
        with_reducible rfl
      rotate_left
      · simp only [Act.put, List.setIfInBounds_toArray, List.set_cons_zero, List.set_cons_succ, i64_w]
        rfl
      refine pure_ (i := 1) (N := some 43) (v := ?_) (a' := ?_) encf7_q2 rfl rfl (any_of HT_.out (by kernel_rfl)) (fun _ _ _ h => h) (Or.inl ⟨by rfl, ?_⟩) ?_ ?_
      rotate_left
      · intro w'
        go_simp
        with_reducible rfl
      rotate_left
      · simp only [Act.put, List.setIfInBounds_toArray, List.set_cons_zero, List.set_cons_succ, i64_w]
        rfl
      refine pure_ (i := 2) (N := some 44) (v := ?_) (a' := ?_) encf7_q3 rfl rfl (any_of HT_.out (by kernel_rfl)) (fun _ _ _ h => h) (Or.inl ⟨by rfl, ?_⟩) ?_ ?_
      rotate_left
      · intro w'
        go_simp
        with_reducible rfl
      rotate_left
      · simp only [Act.put, List.setIfInBounds_toArray, List.set_cons_zero, List.set_cons_succ, i64_w]
        rfl
      refine pure_ (i := 4) (N := some 46) (v := ?_) (a' := ?_) encf7_q4 rfl rfl (any_of HT_.out (by kernel_rfl)) (fun _ _ _ h => h) (Or.inl ⟨by rfl, ?_⟩) ?_ ?_
      rotate_left
      · intro w'
        go_simp
        with_reducible rfl
      rotate_left
      · simp only [Act.put, List.setIfInBounds_toArray, List.set_cons_zero, List.set_cons_succ, i64_w]
        rfl
      refine pure_ (i := 5) (N := some 47) (v := ?_) (a' := ?_) encf7_q5 rfl rfl (any_of HT_.out (by kernel_rfl)) (fun _ _ _ h => h) (Or.inl ⟨by rfl, ?_⟩) ?_ ?_
      rotate_left
      · intro w'
        go_simp
        with_reducible rfl
      rotate_left
      · simp only [Act.put, List.setIfInBounds_toArray, List.set_cons_zero, List.set_cons_succ, i64_w]
        rfl
      refine pure_ (i := 6) (N := some 48) (v := ?_) (a' := ?_) encf7_q6 rfl rfl (any_of HT_.out (by kernel_rfl)) (fun _ _ _ h => h) (Or.inl ⟨by rfl, ?_⟩) ?_ ?_
      rotate_left
      · intro w'
        go_simp
        with_reducible rfl
      rotate_left
      · simp only [Act.put, List.setIfInBounds_toArray, List.set_cons_zero, List.set_cons_succ, i64_w]
        rfl
      refine take_ (i := 3) (N := some 45) (v := ?_) (a' := ?_) encf7_q7 rfl rfl (take_ofW HT_.out HW_.out (by kernel_rfl)) (fun _ _ _ h => h) (Or.inl ⟨by rfl, ?_⟩) hHeld ?_ ?_
      rotate_left
      · rintro w' ⟨s0, s1, s2⟩
        go_simp
        with_reducible rfl
      rotate_left
      · simp only [Act.put, List.setIfInBounds_toArray, List.set_cons_zero, List.set_cons_succ, i64_w]
        rfl
      refine take_ (i := 7) (N := some 49) (v := ?_) (a' := ?_) encf7_q8 rfl rfl (take_ofW HT_.out HW_.out (by kernel_rfl)) (fun _ _ _ h => h) (Or.inl ⟨by rfl, ?_⟩) hHeld ?_ ?_
      rotate_left
      · rintro w' ⟨s0, s1, s2⟩
        go_simp
        with_reducible rfl
      rotate_left
      · simp only [Act.put, List.setIfInBounds_toArray, List.set_cons_zero, List.set_cons_succ, i64_w]
        rfl
      refine one_ (i := 8) (N := some 50) encf7_q9 rfl rfl (one_of HT_.out (by kernel_rfl)) (by decide) (fun K hK => ?_)
      refine goes_ Try.func48 (by kernel_rfl) rfl #[.agg #[.int .i64 0, .int .i64 0], .slice none 0 0] (by rfl) rfl rfl (by (try simp only [List.map_toArray, List.map_cons, List.map_nil]); first | done | rfl) ?_
      refine (show Calls Try.prog 48 #[.agg #[.int .i64 0, .int .i64 0], .slice none 0 0] W2 _ from call_len (GEnc.encode_Encode.calls k 0 0 none 0 ([] : List ByteArray) [] 600 W2 (by first | exact HM.out | (have h_ := HM.out; simpa using h_)) (by simp) E0.out) (by simp)).mono ?_
      rintro e W3 ⟨v0, rfl, ho0, hb⟩
      obtain ⟨Aa, ca, rfl⟩ := Kd.R_slice ho0
      have HS0_ := (hb.cell (World.block_lt_of_cell? _ _ (hHeld.1))).trans (hHeld.1)
      have HS1_ := (hb.cell (World.block_lt_of_cell? _ _ (hHeld.2.1))).trans (hHeld.2.1)
      have HS2_ := (hb.cell (World.block_lt_of_cell? _ _ (hHeld.2.2))).trans (hHeld.2.2)
      refine ⟨_, rfl, ?_⟩
      have HB := mk0 (below_step HBW.out hb)
      clear HM HBW ho0 hb
      refine hK.out _ _ ⟨HS0_, HS1_, HS2_⟩ (fun hHeld => ?_)
      clear hK K
      refine norm_ (a' := ?_) ?_ ?_
      rotate_left
      · show Act.put _ (some 50) _ = _
        simp only [Act.put, List.setIfInBounds_toArray, List.set_cons_zero, List.set_cons_succ, i64_w]
        rfl
      refine pure_ (i := 9) (N := some 41) (v := ?_) (a' := ?_) encf7_q10 rfl rfl (any_of HT_.out (by kernel_rfl)) (fun _ _ _ h => h) (Or.inl ⟨by rfl, ?_⟩) ?_ ?_
      rotate_left
      · intro w'
        go_simp
        with_reducible rfl
      rotate_left
      · simp only [Act.put, List.setIfInBounds_toArray, List.set_cons_zero, List.set_cons_succ, i64_w]
        rfl
      refine pure_ (i := 10) (N := some 51) (v := ?_) (a' := ?_) encf7_q11 rfl rfl (any_of HT_.out (by kernel_rfl)) (fun _ _ _ h => h) (Or.inl ⟨by rfl, ?_⟩) ?_ ?_
      rotate_left
      · intro w'
        go_simp
        with_reducible rfl
      rotate_left
      · simp only [Act.put, List.setIfInBounds_toArray, List.set_cons_zero, List.set_cons_succ, i64_w]
        rfl
      refine pure_ (i := 11) (N := some 52) (v := ?_) (a' := ?_) encf7_q12 rfl rfl (any_of HT_.out (by kernel_rfl)) (fun _ _ _ h => h) (Or.inl ⟨by rfl, ?_⟩) ?_ ?_
      rotate_left
      · intro w'
        go_simp
        with_reducible rfl
      rotate_left
      · simp only [Act.put, List.setIfInBounds_toArray, List.set_cons_zero, List.set_cons_succ, i64_w]
        rfl
      refine pure_ (i := 12) (N := some 9) (v := ?_) (a' := ?_) encf7_q13 rfl rfl (any_of HT_.out (by kernel_rfl)) (fun _ _ _ h => h) (Or.inl ⟨by rfl, ?_⟩) ?_ ?_
      rotate_left
      · intro w'
        go_simp
        with_reducible rfl
      rotate_left
      · simp only [Act.put, List.setIfInBounds_toArray, List.set_cons_zero, List.set_cons_succ, i64_w]
        rfl
      refine pure_ (i := 13) (N := some 10) (v := ?_) (a' := ?_) encf7_q14 rfl rfl (any_of HT_.out (by kernel_rfl)) (fun _ _ _ h => h) (Or.inl ⟨by rfl, ?_⟩) ?_ ?_
      rotate_left
      · intro w'
        go_simp
        with_reducible rfl
      rotate_left
      · simp only [Act.put, List.setIfInBounds_toArray, List.set_cons_zero, List.set_cons_succ, i64_w]
        rfl
      refine done_ (done_of HT_.out (by kernel_rfl)) ?_
      clear HT_ HW_
      clear hHeld HS0_ HS1_ HS2_
      go_wp2_with (first
        | (go_at_call 35; (with_reducible refine (GBase.ossuarylaw0_Num.calls 600 600 _ rfl).mono ?_); rintro e w' ⟨rfl, ⟨nd, rfl⟩⟩))
      go_ret
      exact ⟨rfl, by repeat (first | exact HB.out | apply lN | apply lA | apply lD)⟩
    ·
      have hx0 : W.cell? ⟨w1.heap.size, 2, none⟩ = some (.int .i64 2) := blk_cell O0.out 2
      have hx1 : W.cell? ⟨w1.heap.size, 3, none⟩ = some (.int .i64 3) := blk_cell O0.out 3
      have hx2 : W.cell? ⟨g11, 1, none⟩ = some (.slice (some ⟨g0, 0, none⟩) 2 2) := blk_cell N11.out 1
      have HM := mk0 (show Kd.C Kd.string W (some ⟨g0, 0, none⟩) 2 [(⟨#[97]⟩ : ByteArray), (⟨#[98]⟩ : ByteArray)] from C_strs (t := 9) [(⟨#[97]⟩ : ByteArray), (⟨#[98]⟩ : ByteArray)] N0.out (by simp))
      clear O0 N0 N1 N2 N7 N10 N11
      refine start_ (n := 14) (S := fun w' => w'.cell? ⟨w1.heap.size, 2, none⟩ = some (.int .i64 2) ∧ w'.cell? ⟨w1.heap.size, 3, none⟩ = some (.int .i64 3) ∧ w'.cell? ⟨g11, 1, none⟩ = some (.slice (some ⟨g0, 0, none⟩) 2 2)) (ds := []) encf7_q0 (by kernel_rfl) rfl rfl ⟨hx0, hx1, hx2⟩ (fun hHeld => ?_); refine with_tabW encf7_tab encf7_bits (fun HT_ HW_ => ?_)
      replace HM := mk0 (Kd.C_drew HM.out)
      replace HBW := mk0 (lD HBW.out)
      clear hx0 hx1 hx2
      generalize W.drew = W2 at HM HBW hHeld ⊢
      refine pure_ (i := 0) (N := some 42) (v := ?_) (a' := ?_) encf7_q1 rfl rfl (any_of HT_.out (by kernel_rfl)) (fun _ _ _ h => h) (Or.inl ⟨by rfl, ?_⟩) ?_ ?_
      rotate_left
      · intro w'
        go_simp
        with_reducible rfl
      rotate_left
      · simp only [Act.put, List.setIfInBounds_toArray, List.set_cons_zero, List.set_cons_succ, i64_w]
        rfl
      refine pure_ (i := 1) (N := some 43) (v := ?_) (a' := ?_) encf7_q2 rfl rfl (any_of HT_.out (by kernel_rfl)) (fun _ _ _ h => h) (Or.inl ⟨by rfl, ?_⟩) ?_ ?_
      rotate_left
      · intro w'
        go_simp
        with_reducible rfl
      rotate_left
      · simp only [Act.put, List.setIfInBounds_toArray, List.set_cons_zero, List.set_cons_succ, i64_w]
        rfl
      refine pure_ (i := 2) (N := some 44) (v := ?_) (a' := ?_) encf7_q3 rfl rfl (any_of HT_.out (by kernel_rfl)) (fun _ _ _ h => h) (Or.inl ⟨by rfl, ?_⟩) ?_ ?_
      rotate_left
      · intro w'
        go_simp
        with_reducible rfl
      rotate_left
      · simp only [Act.put, List.setIfInBounds_toArray, List.set_cons_zero, List.set_cons_succ, i64_w]
        rfl
      refine pure_ (i := 4) (N := some 46) (v := ?_) (a' := ?_) encf7_q4 rfl rfl (any_of HT_.out (by kernel_rfl)) (fun _ _ _ h => h) (Or.inl ⟨by rfl, ?_⟩) ?_ ?_
      rotate_left
      · intro w'
        go_simp
        with_reducible rfl
      rotate_left
      · simp only [Act.put, List.setIfInBounds_toArray, List.set_cons_zero, List.set_cons_succ, i64_w]
        rfl
      refine pure_ (i := 5) (N := some 47) (v := ?_) (a' := ?_) encf7_q5 rfl rfl (any_of HT_.out (by kernel_rfl)) (fun _ _ _ h => h) (Or.inl ⟨by rfl, ?_⟩) ?_ ?_
      rotate_left
      · intro w'
        go_simp
        with_reducible rfl
      rotate_left
      · simp only [Act.put, List.setIfInBounds_toArray, List.set_cons_zero, List.set_cons_succ, i64_w]
        rfl
      refine pure_ (i := 6) (N := some 48) (v := ?_) (a' := ?_) encf7_q6 rfl rfl (any_of HT_.out (by kernel_rfl)) (fun _ _ _ h => h) (Or.inl ⟨by rfl, ?_⟩) ?_ ?_
      rotate_left
      · intro w'
        go_simp
        with_reducible rfl
      rotate_left
      · simp only [Act.put, List.setIfInBounds_toArray, List.set_cons_zero, List.set_cons_succ, i64_w]
        rfl
      refine take_ (i := 3) (N := some 45) (v := ?_) (a' := ?_) encf7_q7 rfl rfl (take_ofW HT_.out HW_.out (by kernel_rfl)) (fun _ _ _ h => h) (Or.inl ⟨by rfl, ?_⟩) hHeld ?_ ?_
      rotate_left
      · rintro w' ⟨s0, s1, s2⟩
        go_simp
        with_reducible rfl
      rotate_left
      · simp only [Act.put, List.setIfInBounds_toArray, List.set_cons_zero, List.set_cons_succ, i64_w]
        rfl
      refine take_ (i := 7) (N := some 49) (v := ?_) (a' := ?_) encf7_q8 rfl rfl (take_ofW HT_.out HW_.out (by kernel_rfl)) (fun _ _ _ h => h) (Or.inl ⟨by rfl, ?_⟩) hHeld ?_ ?_
      rotate_left
      · rintro w' ⟨s0, s1, s2⟩
        go_simp
        with_reducible rfl
      rotate_left
      · simp only [Act.put, List.setIfInBounds_toArray, List.set_cons_zero, List.set_cons_succ, i64_w]
        rfl
      refine one_ (i := 8) (N := some 50) encf7_q9 rfl rfl (one_of HT_.out (by kernel_rfl)) (by decide) (fun K hK => ?_)
      refine goes_ Try.func48 (by kernel_rfl) rfl #[.agg #[.int .i64 2, .int .i64 3], .slice (some ⟨g0, 0, none⟩) 2 2] (by rfl) rfl rfl (by (try simp only [List.map_toArray, List.map_cons, List.map_nil]); first | done | rfl) ?_
      refine (show Calls Try.prog 48 #[.agg #[.int .i64 2, .int .i64 3], .slice (some ⟨g0, 0, none⟩) 2 2] W2 _ from call_len (GEnc.encode_Encode.calls k 2 3 (some ⟨g0, 0, none⟩) 2 [(⟨#[97]⟩ : ByteArray), (⟨#[98]⟩ : ByteArray)] [] 600 W2 (by first | exact HM.out | (have h_ := HM.out; simpa using h_)) (by simp) E1.out) (by simp)).mono ?_
      rintro e W3 ⟨v0, rfl, ho0, hb⟩
      obtain ⟨Aa, ca, rfl⟩ := Kd.R_slice ho0
      have HS0_ := (hb.cell (World.block_lt_of_cell? _ _ (hHeld.1))).trans (hHeld.1)
      have HS1_ := (hb.cell (World.block_lt_of_cell? _ _ (hHeld.2.1))).trans (hHeld.2.1)
      have HS2_ := (hb.cell (World.block_lt_of_cell? _ _ (hHeld.2.2))).trans (hHeld.2.2)
      refine ⟨_, rfl, ?_⟩
      have HB := mk0 (below_step HBW.out hb)
      clear HM HBW ho0 hb
      refine hK.out _ _ ⟨HS0_, HS1_, HS2_⟩ (fun hHeld => ?_)
      clear hK K
      refine norm_ (a' := ?_) ?_ ?_
      rotate_left
      · show Act.put _ (some 50) _ = _
        simp only [Act.put, List.setIfInBounds_toArray, List.set_cons_zero, List.set_cons_succ, i64_w]
        rfl
      refine pure_ (i := 9) (N := some 41) (v := ?_) (a' := ?_) encf7_q10 rfl rfl (any_of HT_.out (by kernel_rfl)) (fun _ _ _ h => h) (Or.inl ⟨by rfl, ?_⟩) ?_ ?_
      rotate_left
      · intro w'
        go_simp
        with_reducible rfl
      rotate_left
      · simp only [Act.put, List.setIfInBounds_toArray, List.set_cons_zero, List.set_cons_succ, i64_w]
        rfl
      refine pure_ (i := 10) (N := some 51) (v := ?_) (a' := ?_) encf7_q11 rfl rfl (any_of HT_.out (by kernel_rfl)) (fun _ _ _ h => h) (Or.inl ⟨by rfl, ?_⟩) ?_ ?_
      rotate_left
      · intro w'
        go_simp
        with_reducible rfl
      rotate_left
      · simp only [Act.put, List.setIfInBounds_toArray, List.set_cons_zero, List.set_cons_succ, i64_w]
        rfl
      refine pure_ (i := 11) (N := some 52) (v := ?_) (a' := ?_) encf7_q12 rfl rfl (any_of HT_.out (by kernel_rfl)) (fun _ _ _ h => h) (Or.inl ⟨by rfl, ?_⟩) ?_ ?_
      rotate_left
      · intro w'
        go_simp
        with_reducible rfl
      rotate_left
      · simp only [Act.put, List.setIfInBounds_toArray, List.set_cons_zero, List.set_cons_succ, i64_w]
        rfl
      refine pure_ (i := 12) (N := some 9) (v := ?_) (a' := ?_) encf7_q13 rfl rfl (any_of HT_.out (by kernel_rfl)) (fun _ _ _ h => h) (Or.inl ⟨by rfl, ?_⟩) ?_ ?_
      rotate_left
      · intro w'
        go_simp
        with_reducible rfl
      rotate_left
      · simp only [Act.put, List.setIfInBounds_toArray, List.set_cons_zero, List.set_cons_succ, i64_w]
        rfl
      refine pure_ (i := 13) (N := some 10) (v := ?_) (a' := ?_) encf7_q14 rfl rfl (any_of HT_.out (by kernel_rfl)) (fun _ _ _ h => h) (Or.inl ⟨by rfl, ?_⟩) ?_ ?_
      rotate_left
      · intro w'
        go_simp
        with_reducible rfl
      rotate_left
      · simp only [Act.put, List.setIfInBounds_toArray, List.set_cons_zero, List.set_cons_succ, i64_w]
        rfl
      refine done_ (done_of HT_.out (by kernel_rfl)) ?_
      clear HT_ HW_
      clear hHeld HS0_ HS1_ HS2_
      go_wp2_with (first
        | (go_at_call 35; (with_reducible refine (GBase.ossuarylaw0_Num.calls 600 600 _ rfl).mono ?_); rintro e w' ⟨rfl, ⟨nd, rfl⟩⟩))
      go_ret
      exact ⟨rfl, by repeat (first | exact HB.out | apply lN | apply lA | apply lD)⟩
    ·
      have hx0 : W.cell? ⟨w1.heap.size, 4, none⟩ = some (.int .i64 2) := blk_cell O0.out 4
      have hx1 : W.cell? ⟨w1.heap.size, 5, none⟩ = some (.int .i64 1) := blk_cell O0.out 5
      have hx2 : W.cell? ⟨g11, 2, none⟩ = some (.slice (some ⟨g1, 0, none⟩) 1 1) := blk_cell N11.out 2
      have HM := mk0 (show Kd.C Kd.string W (some ⟨g1, 0, none⟩) 1 [(⟨#[97]⟩ : ByteArray)] from C_strs (t := 9) [(⟨#[97]⟩ : ByteArray)] N1.out (by simp))
      clear O0 N0 N1 N2 N7 N10 N11
      refine start_ (n := 14) (S := fun w' => w'.cell? ⟨w1.heap.size, 4, none⟩ = some (.int .i64 2) ∧ w'.cell? ⟨w1.heap.size, 5, none⟩ = some (.int .i64 1) ∧ w'.cell? ⟨g11, 2, none⟩ = some (.slice (some ⟨g1, 0, none⟩) 1 1)) (ds := []) encf7_q0 (by kernel_rfl) rfl rfl ⟨hx0, hx1, hx2⟩ (fun hHeld => ?_); refine with_tabW encf7_tab encf7_bits (fun HT_ HW_ => ?_)
      replace HM := mk0 (Kd.C_drew HM.out)
      replace HBW := mk0 (lD HBW.out)
      clear hx0 hx1 hx2
      generalize W.drew = W2 at HM HBW hHeld ⊢
      refine pure_ (i := 0) (N := some 42) (v := ?_) (a' := ?_) encf7_q1 rfl rfl (any_of HT_.out (by kernel_rfl)) (fun _ _ _ h => h) (Or.inl ⟨by rfl, ?_⟩) ?_ ?_
      rotate_left
      · intro w'
        go_simp
        with_reducible rfl
      rotate_left
      · simp only [Act.put, List.setIfInBounds_toArray, List.set_cons_zero, List.set_cons_succ, i64_w]
        rfl
      refine pure_ (i := 1) (N := some 43) (v := ?_) (a' := ?_) encf7_q2 rfl rfl (any_of HT_.out (by kernel_rfl)) (fun _ _ _ h => h) (Or.inl ⟨by rfl, ?_⟩) ?_ ?_
      rotate_left
      · intro w'
        go_simp
        with_reducible rfl
      rotate_left
      · simp only [Act.put, List.setIfInBounds_toArray, List.set_cons_zero, List.set_cons_succ, i64_w]
        rfl
      refine pure_ (i := 2) (N := some 44) (v := ?_) (a' := ?_) encf7_q3 rfl rfl (any_of HT_.out (by kernel_rfl)) (fun _ _ _ h => h) (Or.inl ⟨by rfl, ?_⟩) ?_ ?_
      rotate_left
      · intro w'
        go_simp
        with_reducible rfl
      rotate_left
      · simp only [Act.put, List.setIfInBounds_toArray, List.set_cons_zero, List.set_cons_succ, i64_w]
        rfl
      refine pure_ (i := 4) (N := some 46) (v := ?_) (a' := ?_) encf7_q4 rfl rfl (any_of HT_.out (by kernel_rfl)) (fun _ _ _ h => h) (Or.inl ⟨by rfl, ?_⟩) ?_ ?_
      rotate_left
      · intro w'
        go_simp
        with_reducible rfl
      rotate_left
      · simp only [Act.put, List.setIfInBounds_toArray, List.set_cons_zero, List.set_cons_succ, i64_w]
        rfl
      refine pure_ (i := 5) (N := some 47) (v := ?_) (a' := ?_) encf7_q5 rfl rfl (any_of HT_.out (by kernel_rfl)) (fun _ _ _ h => h) (Or.inl ⟨by rfl, ?_⟩) ?_ ?_
      rotate_left
      · intro w'
        go_simp
        with_reducible rfl
      rotate_left
      · simp only [Act.put, List.setIfInBounds_toArray, List.set_cons_zero, List.set_cons_succ, i64_w]
        rfl
      refine pure_ (i := 6) (N := some 48) (v := ?_) (a' := ?_) encf7_q6 rfl rfl (any_of HT_.out (by kernel_rfl)) (fun _ _ _ h => h) (Or.inl ⟨by rfl, ?_⟩) ?_ ?_
      rotate_left
      · intro w'
        go_simp
        with_reducible rfl
      rotate_left
      · simp only [Act.put, List.setIfInBounds_toArray, List.set_cons_zero, List.set_cons_succ, i64_w]
        rfl
      refine take_ (i := 3) (N := some 45) (v := ?_) (a' := ?_) encf7_q7 rfl rfl (take_ofW HT_.out HW_.out (by kernel_rfl)) (fun _ _ _ h => h) (Or.inl ⟨by rfl, ?_⟩) hHeld ?_ ?_
      rotate_left
      · rintro w' ⟨s0, s1, s2⟩
        go_simp
        with_reducible rfl
      rotate_left
      · simp only [Act.put, List.setIfInBounds_toArray, List.set_cons_zero, List.set_cons_succ, i64_w]
        rfl
      refine take_ (i := 7) (N := some 49) (v := ?_) (a' := ?_) encf7_q8 rfl rfl (take_ofW HT_.out HW_.out (by kernel_rfl)) (fun _ _ _ h => h) (Or.inl ⟨by rfl, ?_⟩) hHeld ?_ ?_
      rotate_left
      · rintro w' ⟨s0, s1, s2⟩
        go_simp
        with_reducible rfl
      rotate_left
      · simp only [Act.put, List.setIfInBounds_toArray, List.set_cons_zero, List.set_cons_succ, i64_w]
        rfl
      refine one_ (i := 8) (N := some 50) encf7_q9 rfl rfl (one_of HT_.out (by kernel_rfl)) (by decide) (fun K hK => ?_)
      refine goes_ Try.func48 (by kernel_rfl) rfl #[.agg #[.int .i64 2, .int .i64 1], .slice (some ⟨g1, 0, none⟩) 1 1] (by rfl) rfl rfl (by (try simp only [List.map_toArray, List.map_cons, List.map_nil]); first | done | rfl) ?_
      refine (show Calls Try.prog 48 #[.agg #[.int .i64 2, .int .i64 1], .slice (some ⟨g1, 0, none⟩) 1 1] W2 _ from call_len (GEnc.encode_Encode.calls k 2 1 (some ⟨g1, 0, none⟩) 1 [(⟨#[97]⟩ : ByteArray)] [] 600 W2 (by first | exact HM.out | (have h_ := HM.out; simpa using h_)) (by simp) E2.out) (by simp)).mono ?_
      rintro e W3 ⟨v0, rfl, ho0, hb⟩
      obtain ⟨Aa, ca, rfl⟩ := Kd.R_slice ho0
      have HS0_ := (hb.cell (World.block_lt_of_cell? _ _ (hHeld.1))).trans (hHeld.1)
      have HS1_ := (hb.cell (World.block_lt_of_cell? _ _ (hHeld.2.1))).trans (hHeld.2.1)
      have HS2_ := (hb.cell (World.block_lt_of_cell? _ _ (hHeld.2.2))).trans (hHeld.2.2)
      refine ⟨_, rfl, ?_⟩
      have HB := mk0 (below_step HBW.out hb)
      clear HM HBW ho0 hb
      refine hK.out _ _ ⟨HS0_, HS1_, HS2_⟩ (fun hHeld => ?_)
      clear hK K
      refine norm_ (a' := ?_) ?_ ?_
      rotate_left
      · show Act.put _ (some 50) _ = _
        simp only [Act.put, List.setIfInBounds_toArray, List.set_cons_zero, List.set_cons_succ, i64_w]
        rfl
      refine pure_ (i := 9) (N := some 41) (v := ?_) (a' := ?_) encf7_q10 rfl rfl (any_of HT_.out (by kernel_rfl)) (fun _ _ _ h => h) (Or.inl ⟨by rfl, ?_⟩) ?_ ?_
      rotate_left
      · intro w'
        go_simp
        with_reducible rfl
      rotate_left
      · simp only [Act.put, List.setIfInBounds_toArray, List.set_cons_zero, List.set_cons_succ, i64_w]
        rfl
      refine pure_ (i := 10) (N := some 51) (v := ?_) (a' := ?_) encf7_q11 rfl rfl (any_of HT_.out (by kernel_rfl)) (fun _ _ _ h => h) (Or.inl ⟨by rfl, ?_⟩) ?_ ?_
      rotate_left
      · intro w'
        go_simp
        with_reducible rfl
      rotate_left
      · simp only [Act.put, List.setIfInBounds_toArray, List.set_cons_zero, List.set_cons_succ, i64_w]
        rfl
      refine pure_ (i := 11) (N := some 52) (v := ?_) (a' := ?_) encf7_q12 rfl rfl (any_of HT_.out (by kernel_rfl)) (fun _ _ _ h => h) (Or.inl ⟨by rfl, ?_⟩) ?_ ?_
      rotate_left
      · intro w'
        go_simp
        with_reducible rfl
      rotate_left
      · simp only [Act.put, List.setIfInBounds_toArray, List.set_cons_zero, List.set_cons_succ, i64_w]
        rfl
      refine pure_ (i := 12) (N := some 9) (v := ?_) (a' := ?_) encf7_q13 rfl rfl (any_of HT_.out (by kernel_rfl)) (fun _ _ _ h => h) (Or.inl ⟨by rfl, ?_⟩) ?_ ?_
      rotate_left
      · intro w'
        go_simp
        with_reducible rfl
      rotate_left
      · simp only [Act.put, List.setIfInBounds_toArray, List.set_cons_zero, List.set_cons_succ, i64_w]
        rfl
      refine pure_ (i := 13) (N := some 10) (v := ?_) (a' := ?_) encf7_q14 rfl rfl (any_of HT_.out (by kernel_rfl)) (fun _ _ _ h => h) (Or.inl ⟨by rfl, ?_⟩) ?_ ?_
      rotate_left
      · intro w'
        go_simp
        with_reducible rfl
      rotate_left
      · simp only [Act.put, List.setIfInBounds_toArray, List.set_cons_zero, List.set_cons_succ, i64_w]
        rfl
      refine done_ (done_of HT_.out (by kernel_rfl)) ?_
      clear HT_ HW_
      clear hHeld HS0_ HS1_ HS2_
      go_wp2_with (first
        | (go_at_call 35; (with_reducible refine (GBase.ossuarylaw0_Num.calls 600 600 _ rfl).mono ?_); rintro e w' ⟨rfl, ⟨nd, rfl⟩⟩))
      go_ret
      exact ⟨rfl, by repeat (first | exact HB.out | apply lN | apply lA | apply lD)⟩
    ·
      have hx0 : W.cell? ⟨w1.heap.size, 6, none⟩ = some (.int .i64 2) := blk_cell O0.out 6
      have hx1 : W.cell? ⟨w1.heap.size, 7, none⟩ = some (.int .i64 1) := blk_cell O0.out 7
      have hx2 : W.cell? ⟨g11, 3, none⟩ = some (.slice (some ⟨g2, 0, none⟩) 2 2) := blk_cell N11.out 3
      have HM := mk0 (show Kd.C Kd.string W (some ⟨g2, 0, none⟩) 2 [(⟨#[97]⟩ : ByteArray), (⟨#[]⟩ : ByteArray)] from C_strs (t := 9) [(⟨#[97]⟩ : ByteArray), (⟨#[]⟩ : ByteArray)] N2.out (by simp))
      clear O0 N0 N1 N2 N7 N10 N11
      refine start_ (n := 14) (S := fun w' => w'.cell? ⟨w1.heap.size, 6, none⟩ = some (.int .i64 2) ∧ w'.cell? ⟨w1.heap.size, 7, none⟩ = some (.int .i64 1) ∧ w'.cell? ⟨g11, 3, none⟩ = some (.slice (some ⟨g2, 0, none⟩) 2 2)) (ds := []) encf7_q0 (by kernel_rfl) rfl rfl ⟨hx0, hx1, hx2⟩ (fun hHeld => ?_); refine with_tabW encf7_tab encf7_bits (fun HT_ HW_ => ?_)
      replace HM := mk0 (Kd.C_drew HM.out)
      replace HBW := mk0 (lD HBW.out)
      clear hx0 hx1 hx2
      generalize W.drew = W2 at HM HBW hHeld ⊢
      refine pure_ (i := 0) (N := some 42) (v := ?_) (a' := ?_) encf7_q1 rfl rfl (any_of HT_.out (by kernel_rfl)) (fun _ _ _ h => h) (Or.inl ⟨by rfl, ?_⟩) ?_ ?_
      rotate_left
      · intro w'
        go_simp
        with_reducible rfl
      rotate_left
      · simp only [Act.put, List.setIfInBounds_toArray, List.set_cons_zero, List.set_cons_succ, i64_w]
        rfl
      refine pure_ (i := 1) (N := some 43) (v := ?_) (a' := ?_) encf7_q2 rfl rfl (any_of HT_.out (by kernel_rfl)) (fun _ _ _ h => h) (Or.inl ⟨by rfl, ?_⟩) ?_ ?_
      rotate_left
      · intro w'
        go_simp
        with_reducible rfl
      rotate_left
      · simp only [Act.put, List.setIfInBounds_toArray, List.set_cons_zero, List.set_cons_succ, i64_w]
        rfl
      refine pure_ (i := 2) (N := some 44) (v := ?_) (a' := ?_) encf7_q3 rfl rfl (any_of HT_.out (by kernel_rfl)) (fun _ _ _ h => h) (Or.inl ⟨by rfl, ?_⟩) ?_ ?_
      rotate_left
      · intro w'
        go_simp
        with_reducible rfl
      rotate_left
      · simp only [Act.put, List.setIfInBounds_toArray, List.set_cons_zero, List.set_cons_succ, i64_w]
        rfl
      refine pure_ (i := 4) (N := some 46) (v := ?_) (a' := ?_) encf7_q4 rfl rfl (any_of HT_.out (by kernel_rfl)) (fun _ _ _ h => h) (Or.inl ⟨by rfl, ?_⟩) ?_ ?_
      rotate_left
      · intro w'
        go_simp
        with_reducible rfl
      rotate_left
      · simp only [Act.put, List.setIfInBounds_toArray, List.set_cons_zero, List.set_cons_succ, i64_w]
        rfl
      refine pure_ (i := 5) (N := some 47) (v := ?_) (a' := ?_) encf7_q5 rfl rfl (any_of HT_.out (by kernel_rfl)) (fun _ _ _ h => h) (Or.inl ⟨by rfl, ?_⟩) ?_ ?_
      rotate_left
      · intro w'
        go_simp
        with_reducible rfl
      rotate_left
      · simp only [Act.put, List.setIfInBounds_toArray, List.set_cons_zero, List.set_cons_succ, i64_w]
        rfl
      refine pure_ (i := 6) (N := some 48) (v := ?_) (a' := ?_) encf7_q6 rfl rfl (any_of HT_.out (by kernel_rfl)) (fun _ _ _ h => h) (Or.inl ⟨by rfl, ?_⟩) ?_ ?_
      rotate_left
      · intro w'
        go_simp
        with_reducible rfl
      rotate_left
      · simp only [Act.put, List.setIfInBounds_toArray, List.set_cons_zero, List.set_cons_succ, i64_w]
        rfl
      refine take_ (i := 3) (N := some 45) (v := ?_) (a' := ?_) encf7_q7 rfl rfl (take_ofW HT_.out HW_.out (by kernel_rfl)) (fun _ _ _ h => h) (Or.inl ⟨by rfl, ?_⟩) hHeld ?_ ?_
      rotate_left
      · rintro w' ⟨s0, s1, s2⟩
        go_simp
        with_reducible rfl
      rotate_left
      · simp only [Act.put, List.setIfInBounds_toArray, List.set_cons_zero, List.set_cons_succ, i64_w]
        rfl
      refine take_ (i := 7) (N := some 49) (v := ?_) (a' := ?_) encf7_q8 rfl rfl (take_ofW HT_.out HW_.out (by kernel_rfl)) (fun _ _ _ h => h) (Or.inl ⟨by rfl, ?_⟩) hHeld ?_ ?_
      rotate_left
      · rintro w' ⟨s0, s1, s2⟩
        go_simp
        with_reducible rfl
      rotate_left
      · simp only [Act.put, List.setIfInBounds_toArray, List.set_cons_zero, List.set_cons_succ, i64_w]
        rfl
      refine one_ (i := 8) (N := some 50) encf7_q9 rfl rfl (one_of HT_.out (by kernel_rfl)) (by decide) (fun K hK => ?_)
      refine goes_ Try.func48 (by kernel_rfl) rfl #[.agg #[.int .i64 2, .int .i64 1], .slice (some ⟨g2, 0, none⟩) 2 2] (by rfl) rfl rfl (by (try simp only [List.map_toArray, List.map_cons, List.map_nil]); first | done | rfl) ?_
      refine (show Calls Try.prog 48 #[.agg #[.int .i64 2, .int .i64 1], .slice (some ⟨g2, 0, none⟩) 2 2] W2 _ from call_len (GEnc.encode_Encode.calls k 2 1 (some ⟨g2, 0, none⟩) 2 [(⟨#[97]⟩ : ByteArray), (⟨#[]⟩ : ByteArray)] [] 600 W2 (by first | exact HM.out | (have h_ := HM.out; simpa using h_)) (by simp) E3.out) (by simp)).mono ?_
      rintro e W3 ⟨v0, rfl, ho0, hb⟩
      obtain ⟨Aa, ca, rfl⟩ := Kd.R_slice ho0
      have HS0_ := (hb.cell (World.block_lt_of_cell? _ _ (hHeld.1))).trans (hHeld.1)
      have HS1_ := (hb.cell (World.block_lt_of_cell? _ _ (hHeld.2.1))).trans (hHeld.2.1)
      have HS2_ := (hb.cell (World.block_lt_of_cell? _ _ (hHeld.2.2))).trans (hHeld.2.2)
      refine ⟨_, rfl, ?_⟩
      have HB := mk0 (below_step HBW.out hb)
      clear HM HBW ho0 hb
      refine hK.out _ _ ⟨HS0_, HS1_, HS2_⟩ (fun hHeld => ?_)
      clear hK K
      refine norm_ (a' := ?_) ?_ ?_
      rotate_left
      · show Act.put _ (some 50) _ = _
        simp only [Act.put, List.setIfInBounds_toArray, List.set_cons_zero, List.set_cons_succ, i64_w]
        rfl
      refine pure_ (i := 9) (N := some 41) (v := ?_) (a' := ?_) encf7_q10 rfl rfl (any_of HT_.out (by kernel_rfl)) (fun _ _ _ h => h) (Or.inl ⟨by rfl, ?_⟩) ?_ ?_
      rotate_left
      · intro w'
        go_simp
        with_reducible rfl
      rotate_left
      · simp only [Act.put, List.setIfInBounds_toArray, List.set_cons_zero, List.set_cons_succ, i64_w]
        rfl
      refine pure_ (i := 10) (N := some 51) (v := ?_) (a' := ?_) encf7_q11 rfl rfl (any_of HT_.out (by kernel_rfl)) (fun _ _ _ h => h) (Or.inl ⟨by rfl, ?_⟩) ?_ ?_
      rotate_left
      · intro w'
        go_simp
        with_reducible rfl
      rotate_left
      · simp only [Act.put, List.setIfInBounds_toArray, List.set_cons_zero, List.set_cons_succ, i64_w]
        rfl
      refine pure_ (i := 11) (N := some 52) (v := ?_) (a' := ?_) encf7_q12 rfl rfl (any_of HT_.out (by kernel_rfl)) (fun _ _ _ h => h) (Or.inl ⟨by rfl, ?_⟩) ?_ ?_
      rotate_left
      · intro w'
        go_simp
        with_reducible rfl
      rotate_left
      · simp only [Act.put, List.setIfInBounds_toArray, List.set_cons_zero, List.set_cons_succ, i64_w]
        rfl
      refine pure_ (i := 12) (N := some 9) (v := ?_) (a' := ?_) encf7_q13 rfl rfl (any_of HT_.out (by kernel_rfl)) (fun _ _ _ h => h) (Or.inl ⟨by rfl, ?_⟩) ?_ ?_
      rotate_left
      · intro w'
        go_simp
        with_reducible rfl
      rotate_left
      · simp only [Act.put, List.setIfInBounds_toArray, List.set_cons_zero, List.set_cons_succ, i64_w]
        rfl
      refine pure_ (i := 13) (N := some 10) (v := ?_) (a' := ?_) encf7_q14 rfl rfl (any_of HT_.out (by kernel_rfl)) (fun _ _ _ h => h) (Or.inl ⟨by rfl, ?_⟩) ?_ ?_
      rotate_left
      · intro w'
        go_simp
        with_reducible rfl
      rotate_left
      · simp only [Act.put, List.setIfInBounds_toArray, List.set_cons_zero, List.set_cons_succ, i64_w]
        rfl
      refine done_ (done_of HT_.out (by kernel_rfl)) ?_
      clear HT_ HW_
      clear hHeld HS0_ HS1_ HS2_
      go_wp2_with (first
        | (go_at_call 35; (with_reducible refine (GBase.ossuarylaw0_Num.calls 600 600 _ rfl).mono ?_); rintro e w' ⟨rfl, ⟨nd, rfl⟩⟩))
      go_ret
      exact ⟨rfl, by repeat (first | exact HB.out | apply lN | apply lA | apply lD)⟩
    ·
      have hx0 : W.cell? ⟨w1.heap.size, 8, none⟩ = some (.int .i64 1) := blk_cell O0.out 8
      have hx1 : W.cell? ⟨w1.heap.size, 9, none⟩ = some (.int .i64 1) := blk_cell O0.out 9
      have hx2 : W.cell? ⟨g11, 4, none⟩ = some (.slice (some ⟨g7, 0, none⟩) 1 1) := blk_cell N11.out 4
      have HM := mk0 (show Kd.C Kd.string W (some ⟨g7, 0, none⟩) 1 [L] from C_strs (t := 9) [L] N7.out (by simp))
      clear O0 N0 N1 N2 N7 N10 N11
      refine start_ (n := 14) (S := fun w' => w'.cell? ⟨w1.heap.size, 8, none⟩ = some (.int .i64 1) ∧ w'.cell? ⟨w1.heap.size, 9, none⟩ = some (.int .i64 1) ∧ w'.cell? ⟨g11, 4, none⟩ = some (.slice (some ⟨g7, 0, none⟩) 1 1)) (ds := []) encf7_q0 (by kernel_rfl) rfl rfl ⟨hx0, hx1, hx2⟩ (fun hHeld => ?_); refine with_tabW encf7_tab encf7_bits (fun HT_ HW_ => ?_)
      replace HM := mk0 (Kd.C_drew HM.out)
      replace HBW := mk0 (lD HBW.out)
      clear hx0 hx1 hx2
      generalize W.drew = W2 at HM HBW hHeld ⊢
      refine pure_ (i := 0) (N := some 42) (v := ?_) (a' := ?_) encf7_q1 rfl rfl (any_of HT_.out (by kernel_rfl)) (fun _ _ _ h => h) (Or.inl ⟨by rfl, ?_⟩) ?_ ?_
      rotate_left
      · intro w'
        go_simp
        with_reducible rfl
      rotate_left
      · simp only [Act.put, List.setIfInBounds_toArray, List.set_cons_zero, List.set_cons_succ, i64_w]
        rfl
      refine pure_ (i := 1) (N := some 43) (v := ?_) (a' := ?_) encf7_q2 rfl rfl (any_of HT_.out (by kernel_rfl)) (fun _ _ _ h => h) (Or.inl ⟨by rfl, ?_⟩) ?_ ?_
      rotate_left
      · intro w'
        go_simp
        with_reducible rfl
      rotate_left
      · simp only [Act.put, List.setIfInBounds_toArray, List.set_cons_zero, List.set_cons_succ, i64_w]
        rfl
      refine pure_ (i := 2) (N := some 44) (v := ?_) (a' := ?_) encf7_q3 rfl rfl (any_of HT_.out (by kernel_rfl)) (fun _ _ _ h => h) (Or.inl ⟨by rfl, ?_⟩) ?_ ?_
      rotate_left
      · intro w'
        go_simp
        with_reducible rfl
      rotate_left
      · simp only [Act.put, List.setIfInBounds_toArray, List.set_cons_zero, List.set_cons_succ, i64_w]
        rfl
      refine pure_ (i := 4) (N := some 46) (v := ?_) (a' := ?_) encf7_q4 rfl rfl (any_of HT_.out (by kernel_rfl)) (fun _ _ _ h => h) (Or.inl ⟨by rfl, ?_⟩) ?_ ?_
      rotate_left
      · intro w'
        go_simp
        with_reducible rfl
      rotate_left
      · simp only [Act.put, List.setIfInBounds_toArray, List.set_cons_zero, List.set_cons_succ, i64_w]
        rfl
      refine pure_ (i := 5) (N := some 47) (v := ?_) (a' := ?_) encf7_q5 rfl rfl (any_of HT_.out (by kernel_rfl)) (fun _ _ _ h => h) (Or.inl ⟨by rfl, ?_⟩) ?_ ?_
      rotate_left
      · intro w'
        go_simp
        with_reducible rfl
      rotate_left
      · simp only [Act.put, List.setIfInBounds_toArray, List.set_cons_zero, List.set_cons_succ, i64_w]
        rfl
      refine pure_ (i := 6) (N := some 48) (v := ?_) (a' := ?_) encf7_q6 rfl rfl (any_of HT_.out (by kernel_rfl)) (fun _ _ _ h => h) (Or.inl ⟨by rfl, ?_⟩) ?_ ?_
      rotate_left
      · intro w'
        go_simp
        with_reducible rfl
      rotate_left
      · simp only [Act.put, List.setIfInBounds_toArray, List.set_cons_zero, List.set_cons_succ, i64_w]
        rfl
      refine take_ (i := 3) (N := some 45) (v := ?_) (a' := ?_) encf7_q7 rfl rfl (take_ofW HT_.out HW_.out (by kernel_rfl)) (fun _ _ _ h => h) (Or.inl ⟨by rfl, ?_⟩) hHeld ?_ ?_
      rotate_left
      · rintro w' ⟨s0, s1, s2⟩
        go_simp
        with_reducible rfl
      rotate_left
      · simp only [Act.put, List.setIfInBounds_toArray, List.set_cons_zero, List.set_cons_succ, i64_w]
        rfl
      refine take_ (i := 7) (N := some 49) (v := ?_) (a' := ?_) encf7_q8 rfl rfl (take_ofW HT_.out HW_.out (by kernel_rfl)) (fun _ _ _ h => h) (Or.inl ⟨by rfl, ?_⟩) hHeld ?_ ?_
      rotate_left
      · rintro w' ⟨s0, s1, s2⟩
        go_simp
        with_reducible rfl
      rotate_left
      · simp only [Act.put, List.setIfInBounds_toArray, List.set_cons_zero, List.set_cons_succ, i64_w]
        rfl
      refine one_ (i := 8) (N := some 50) encf7_q9 rfl rfl (one_of HT_.out (by kernel_rfl)) (by decide) (fun K hK => ?_)
      refine goes_ Try.func48 (by kernel_rfl) rfl #[.agg #[.int .i64 1, .int .i64 1], .slice (some ⟨g7, 0, none⟩) 1 1] (by rfl) rfl rfl (by (try simp only [List.map_toArray, List.map_cons, List.map_nil]); first | done | rfl) ?_
      refine (show Calls Try.prog 48 #[.agg #[.int .i64 1, .int .i64 1], .slice (some ⟨g7, 0, none⟩) 1 1] W2 _ from call_len (GEnc.encode_Encode.calls k 1 1 (some ⟨g7, 0, none⟩) 1 [L] [] 600 W2 (by first | exact HM.out | (have h_ := HM.out; simpa using h_)) (by simp) E4.out) (by simp)).mono ?_
      rintro e W3 ⟨v0, rfl, ho0, hb⟩
      obtain ⟨Aa, ca, rfl⟩ := Kd.R_slice ho0
      have HS0_ := (hb.cell (World.block_lt_of_cell? _ _ (hHeld.1))).trans (hHeld.1)
      have HS1_ := (hb.cell (World.block_lt_of_cell? _ _ (hHeld.2.1))).trans (hHeld.2.1)
      have HS2_ := (hb.cell (World.block_lt_of_cell? _ _ (hHeld.2.2))).trans (hHeld.2.2)
      refine ⟨_, rfl, ?_⟩
      have HB := mk0 (below_step HBW.out hb)
      clear HM HBW ho0 hb
      refine hK.out _ _ ⟨HS0_, HS1_, HS2_⟩ (fun hHeld => ?_)
      clear hK K
      refine norm_ (a' := ?_) ?_ ?_
      rotate_left
      · show Act.put _ (some 50) _ = _
        simp only [Act.put, List.setIfInBounds_toArray, List.set_cons_zero, List.set_cons_succ, i64_w]
        rfl
      refine pure_ (i := 9) (N := some 41) (v := ?_) (a' := ?_) encf7_q10 rfl rfl (any_of HT_.out (by kernel_rfl)) (fun _ _ _ h => h) (Or.inl ⟨by rfl, ?_⟩) ?_ ?_
      rotate_left
      · intro w'
        go_simp
        with_reducible rfl
      rotate_left
      · simp only [Act.put, List.setIfInBounds_toArray, List.set_cons_zero, List.set_cons_succ, i64_w]
        rfl
      refine pure_ (i := 10) (N := some 51) (v := ?_) (a' := ?_) encf7_q11 rfl rfl (any_of HT_.out (by kernel_rfl)) (fun _ _ _ h => h) (Or.inl ⟨by rfl, ?_⟩) ?_ ?_
      rotate_left
      · intro w'
        go_simp
        with_reducible rfl
      rotate_left
      · simp only [Act.put, List.setIfInBounds_toArray, List.set_cons_zero, List.set_cons_succ, i64_w]
        rfl
      refine pure_ (i := 11) (N := some 52) (v := ?_) (a' := ?_) encf7_q12 rfl rfl (any_of HT_.out (by kernel_rfl)) (fun _ _ _ h => h) (Or.inl ⟨by rfl, ?_⟩) ?_ ?_
      rotate_left
      · intro w'
        go_simp
        with_reducible rfl
      rotate_left
      · simp only [Act.put, List.setIfInBounds_toArray, List.set_cons_zero, List.set_cons_succ, i64_w]
        rfl
      refine pure_ (i := 12) (N := some 9) (v := ?_) (a' := ?_) encf7_q13 rfl rfl (any_of HT_.out (by kernel_rfl)) (fun _ _ _ h => h) (Or.inl ⟨by rfl, ?_⟩) ?_ ?_
      rotate_left
      · intro w'
        go_simp
        with_reducible rfl
      rotate_left
      · simp only [Act.put, List.setIfInBounds_toArray, List.set_cons_zero, List.set_cons_succ, i64_w]
        rfl
      refine pure_ (i := 13) (N := some 10) (v := ?_) (a' := ?_) encf7_q14 rfl rfl (any_of HT_.out (by kernel_rfl)) (fun _ _ _ h => h) (Or.inl ⟨by rfl, ?_⟩) ?_ ?_
      rotate_left
      · intro w'
        go_simp
        with_reducible rfl
      rotate_left
      · simp only [Act.put, List.setIfInBounds_toArray, List.set_cons_zero, List.set_cons_succ, i64_w]
        rfl
      refine done_ (done_of HT_.out (by kernel_rfl)) ?_
      clear HT_ HW_
      clear hHeld HS0_ HS1_ HS2_
      go_wp2_with (first
        | (go_at_call 35; (with_reducible refine (GBase.ossuarylaw0_Num.calls 600 600 _ rfl).mono ?_); rintro e w' ⟨rfl, ⟨nd, rfl⟩⟩))
      go_ret
      exact ⟨rfl, by repeat (first | exact HB.out | apply lN | apply lA | apply lD)⟩
    ·
      have hx0 : W.cell? ⟨w1.heap.size, 10, none⟩ = some (.int .i64 n4) := blk_cell O0.out 10
      have hx1 : W.cell? ⟨w1.heap.size, 11, none⟩ = some (.int .i64 0) := blk_cell O0.out 11
      have hx2 : W.cell? ⟨g11, 5, none⟩ = some (.slice (some ⟨g10, 0, none⟩) n4.toNat n4.toNat) := blk_cell N11.out 5
      have HM := mk0 (show Kd.C Kd.string W (some ⟨g10, 0, none⟩) n4.toNat (List.replicate n4.toNat ByteArray.empty) from (by have h_ := C_strs (w := W) (g := g10) (t := 9) (List.replicate n4.toNat ByteArray.empty) (by have := N10.out; rw [made_rep] at this; simpa using this) (by simp; omega); simpa using h_))
      clear O0 N0 N1 N2 N7 N10 N11
      refine start_ (n := 14) (S := fun w' => w'.cell? ⟨w1.heap.size, 10, none⟩ = some (.int .i64 n4) ∧ w'.cell? ⟨w1.heap.size, 11, none⟩ = some (.int .i64 0) ∧ w'.cell? ⟨g11, 5, none⟩ = some (.slice (some ⟨g10, 0, none⟩) n4.toNat n4.toNat)) (ds := []) encf7_q0 (by kernel_rfl) rfl rfl ⟨hx0, hx1, hx2⟩ (fun hHeld => ?_); refine with_tabW encf7_tab encf7_bits (fun HT_ HW_ => ?_)
      replace HM := mk0 (Kd.C_drew HM.out)
      replace HBW := mk0 (lD HBW.out)
      clear hx0 hx1 hx2
      generalize W.drew = W2 at HM HBW hHeld ⊢
      refine pure_ (i := 0) (N := some 42) (v := ?_) (a' := ?_) encf7_q1 rfl rfl (any_of HT_.out (by kernel_rfl)) (fun _ _ _ h => h) (Or.inl ⟨by rfl, ?_⟩) ?_ ?_
      rotate_left
      · intro w'
        go_simp
        with_reducible rfl
      rotate_left
      · simp only [Act.put, List.setIfInBounds_toArray, List.set_cons_zero, List.set_cons_succ, i64_w]
        rfl
      refine pure_ (i := 1) (N := some 43) (v := ?_) (a' := ?_) encf7_q2 rfl rfl (any_of HT_.out (by kernel_rfl)) (fun _ _ _ h => h) (Or.inl ⟨by rfl, ?_⟩) ?_ ?_
      rotate_left
      · intro w'
        go_simp
        with_reducible rfl
      rotate_left
      · simp only [Act.put, List.setIfInBounds_toArray, List.set_cons_zero, List.set_cons_succ, i64_w]
        rfl
      refine pure_ (i := 2) (N := some 44) (v := ?_) (a' := ?_) encf7_q3 rfl rfl (any_of HT_.out (by kernel_rfl)) (fun _ _ _ h => h) (Or.inl ⟨by rfl, ?_⟩) ?_ ?_
      rotate_left
      · intro w'
        go_simp
        with_reducible rfl
      rotate_left
      · simp only [Act.put, List.setIfInBounds_toArray, List.set_cons_zero, List.set_cons_succ, i64_w]
        rfl
      refine pure_ (i := 4) (N := some 46) (v := ?_) (a' := ?_) encf7_q4 rfl rfl (any_of HT_.out (by kernel_rfl)) (fun _ _ _ h => h) (Or.inl ⟨by rfl, ?_⟩) ?_ ?_
      rotate_left
      · intro w'
        go_simp
        with_reducible rfl
      rotate_left
      · simp only [Act.put, List.setIfInBounds_toArray, List.set_cons_zero, List.set_cons_succ, i64_w]
        rfl
      refine pure_ (i := 5) (N := some 47) (v := ?_) (a' := ?_) encf7_q5 rfl rfl (any_of HT_.out (by kernel_rfl)) (fun _ _ _ h => h) (Or.inl ⟨by rfl, ?_⟩) ?_ ?_
      rotate_left
      · intro w'
        go_simp
        with_reducible rfl
      rotate_left
      · simp only [Act.put, List.setIfInBounds_toArray, List.set_cons_zero, List.set_cons_succ, i64_w]
        rfl
      refine pure_ (i := 6) (N := some 48) (v := ?_) (a' := ?_) encf7_q6 rfl rfl (any_of HT_.out (by kernel_rfl)) (fun _ _ _ h => h) (Or.inl ⟨by rfl, ?_⟩) ?_ ?_
      rotate_left
      · intro w'
        go_simp
        with_reducible rfl
      rotate_left
      · simp only [Act.put, List.setIfInBounds_toArray, List.set_cons_zero, List.set_cons_succ, i64_w]
        rfl
      refine take_ (i := 3) (N := some 45) (v := ?_) (a' := ?_) encf7_q7 rfl rfl (take_ofW HT_.out HW_.out (by kernel_rfl)) (fun _ _ _ h => h) (Or.inl ⟨by rfl, ?_⟩) hHeld ?_ ?_
      rotate_left
      · rintro w' ⟨s0, s1, s2⟩
        go_simp
        with_reducible rfl
      rotate_left
      · simp only [Act.put, List.setIfInBounds_toArray, List.set_cons_zero, List.set_cons_succ, i64_w]
        rfl
      refine take_ (i := 7) (N := some 49) (v := ?_) (a' := ?_) encf7_q8 rfl rfl (take_ofW HT_.out HW_.out (by kernel_rfl)) (fun _ _ _ h => h) (Or.inl ⟨by rfl, ?_⟩) hHeld ?_ ?_
      rotate_left
      · rintro w' ⟨s0, s1, s2⟩
        go_simp
        with_reducible rfl
      rotate_left
      · simp only [Act.put, List.setIfInBounds_toArray, List.set_cons_zero, List.set_cons_succ, i64_w]
        rfl
      refine one_ (i := 8) (N := some 50) encf7_q9 rfl rfl (one_of HT_.out (by kernel_rfl)) (by decide) (fun K hK => ?_)
      refine goes_ Try.func48 (by kernel_rfl) rfl #[.agg #[.int .i64 n4, .int .i64 0], .slice (some ⟨g10, 0, none⟩) n4.toNat n4.toNat] (by rfl) rfl rfl (by (try simp only [List.map_toArray, List.map_cons, List.map_nil]); first | done | rfl) ?_
      refine (show Calls Try.prog 48 #[.agg #[.int .i64 n4, .int .i64 0], .slice (some ⟨g10, 0, none⟩) n4.toNat n4.toNat] W2 _ from call_len (GEnc.encode_Encode.calls k n4 0 (some ⟨g10, 0, none⟩) n4.toNat (List.replicate n4.toNat ByteArray.empty) [] 600 W2 (by first | exact HM.out | (have h_ := HM.out; simpa using h_)) (by simp) E5.out) (by simp)).mono ?_
      rintro e W3 ⟨v0, rfl, ho0, hb⟩
      obtain ⟨Aa, ca, rfl⟩ := Kd.R_slice ho0
      have HS0_ := (hb.cell (World.block_lt_of_cell? _ _ (hHeld.1))).trans (hHeld.1)
      have HS1_ := (hb.cell (World.block_lt_of_cell? _ _ (hHeld.2.1))).trans (hHeld.2.1)
      have HS2_ := (hb.cell (World.block_lt_of_cell? _ _ (hHeld.2.2))).trans (hHeld.2.2)
      refine ⟨_, rfl, ?_⟩
      have HB := mk0 (below_step HBW.out hb)
      clear HM HBW ho0 hb
      refine hK.out _ _ ⟨HS0_, HS1_, HS2_⟩ (fun hHeld => ?_)
      clear hK K
      refine norm_ (a' := ?_) ?_ ?_
      rotate_left
      · show Act.put _ (some 50) _ = _
        simp only [Act.put, List.setIfInBounds_toArray, List.set_cons_zero, List.set_cons_succ, i64_w]
        rfl
      refine pure_ (i := 9) (N := some 41) (v := ?_) (a' := ?_) encf7_q10 rfl rfl (any_of HT_.out (by kernel_rfl)) (fun _ _ _ h => h) (Or.inl ⟨by rfl, ?_⟩) ?_ ?_
      rotate_left
      · intro w'
        go_simp
        with_reducible rfl
      rotate_left
      · simp only [Act.put, List.setIfInBounds_toArray, List.set_cons_zero, List.set_cons_succ, i64_w]
        rfl
      refine pure_ (i := 10) (N := some 51) (v := ?_) (a' := ?_) encf7_q11 rfl rfl (any_of HT_.out (by kernel_rfl)) (fun _ _ _ h => h) (Or.inl ⟨by rfl, ?_⟩) ?_ ?_
      rotate_left
      · intro w'
        go_simp
        with_reducible rfl
      rotate_left
      · simp only [Act.put, List.setIfInBounds_toArray, List.set_cons_zero, List.set_cons_succ, i64_w]
        rfl
      refine pure_ (i := 11) (N := some 52) (v := ?_) (a' := ?_) encf7_q12 rfl rfl (any_of HT_.out (by kernel_rfl)) (fun _ _ _ h => h) (Or.inl ⟨by rfl, ?_⟩) ?_ ?_
      rotate_left
      · intro w'
        go_simp
        with_reducible rfl
      rotate_left
      · simp only [Act.put, List.setIfInBounds_toArray, List.set_cons_zero, List.set_cons_succ, i64_w]
        rfl
      refine pure_ (i := 12) (N := some 9) (v := ?_) (a' := ?_) encf7_q13 rfl rfl (any_of HT_.out (by kernel_rfl)) (fun _ _ _ h => h) (Or.inl ⟨by rfl, ?_⟩) ?_ ?_
      rotate_left
      · intro w'
        go_simp
        with_reducible rfl
      rotate_left
      · simp only [Act.put, List.setIfInBounds_toArray, List.set_cons_zero, List.set_cons_succ, i64_w]
        rfl
      refine pure_ (i := 13) (N := some 10) (v := ?_) (a' := ?_) encf7_q14 rfl rfl (any_of HT_.out (by kernel_rfl)) (fun _ _ _ h => h) (Or.inl ⟨by rfl, ?_⟩) ?_ ?_
      rotate_left
      · intro w'
        go_simp
        with_reducible rfl
      rotate_left
      · simp only [Act.put, List.setIfInBounds_toArray, List.set_cons_zero, List.set_cons_succ, i64_w]
        rfl
      refine done_ (done_of HT_.out (by kernel_rfl)) ?_
      clear HT_ HW_
      clear hHeld HS0_ HS1_ HS2_
      go_wp2_with (first
        | (go_at_call 35; (with_reducible refine (GBase.ossuarylaw0_Num.calls 600 600 _ rfl).mono ?_); rintro e w' ⟨rfl, ⟨nd, rfl⟩⟩))
      go_ret
      exact ⟨rfl, by repeat (first | exact HB.out | apply lN | apply lA | apply lD)⟩
end Go.Proofs.Ytaahnicjjpddjaa.EncF
