/- The matrix that the program makes for a product: in each row and column the sum of products of a row and a column, the matrices lying in two variables that the function handed over captured. For matrices that may be. -/
import Derived.Test.YtaahnicjjpddjaaKMatricesGBase1
import Derived.Test.YtaahnicjjpddjaaKMatricesGfsGf
namespace Go.Proofs.Ytaahnicjjpddjaa.Fn
open Go.RowKit Go.Proofs.YtaahnicjjpddjaaW.PrintWords Go.Proofs.YtaahnicjjpddjaaW.PrintLast Go.Proofs.YtaahnicjjpddjaaW.PrintMore Go.Proofs.Ytaahnicjjpddjaa.MadeW Go.Proofs.Ytaahnicjjpddjaa.Fld
/-- a row's numbers, each times a column's, added up to place k. -/
def dotF (g h : Nat → F) : Nat → F
  | 0 => 0#8
  | k + 1 => dotF g h k ^^^ fm (g k) (h k)
/-- entry i, j of a matrix. -/
def ent (m : List (List Int)) (i j : Nat) : F := ofI ((m.getD i []).getD j 0)
def okRow (n : Nat) (r : List Int) : Bool := decide (r.length = n) && r.all isB
def okMat (m : List (List Int)) (n : Nat) : Bool := m.all (okRow n)
theorem okMat_row {m : List (List Int)} {n : Nat} (h : okMat m n = true) {i : Nat} (hi : i < m.length) : m[i].length = n ∧ ∀ j (hj : j < m[i].length), 0 ≤ m[i][j] ∧ m[i][j] < 256 := by
  have h1 := List.all_eq_true.1 h _ (List.getElem_mem hi)
  unfold okRow at h1
  rw [Bool.and_eq_true] at h1
  refine ⟨of_decide_eq_true h1.1, fun j hj => ?_⟩
  have h2 := List.all_eq_true.1 h1.2 _ (List.getElem_mem hj)
  unfold isB at h2
  rw [Bool.and_eq_true] at h2
  exact ⟨of_decide_eq_true h2.1, of_decide_eq_true h2.2⟩
theorem ent_get {m : List (List Int)} {n : Nat} (h : okMat m n = true) {i j : Nat} (hi : i < m.length) (hj : j < n) : ∃ hj' : j < m[i].length, m[i][j] = toI (ent m i j) := by
  obtain ⟨h1, h2⟩ := okMat_row h hi
  have hj' : j < m[i].length := by omega
  refine ⟨hj', ?_⟩
  unfold ent
  have e1 : m.getD i [] = m[i] := by rw [List.getD_eq_getElem?_getD, List.getElem?_eq_getElem hi]; rfl
  have e2 : m[i].getD j 0 = m[i][j] := by rw [List.getD_eq_getElem?_getD, List.getElem?_eq_getElem hj']; rfl
  obtain ⟨h3, h4⟩ := h2 j hj'
  rw [e1, e2, toI_ofI h3 h4]
theorem at_L1 {w : World} {A : Option Addr} {n : Nat} {xs : List (List Int)} (h : Kd.C (Kd.slice 3 (Kd.int .i64)) w A n xs) (i : Nat) (h1 : i < n) (hi : i < xs.length) : ∃ ad A0 c0, A = some ad ∧ w.cell? (ad.add i) = some (.slice A0 xs[i].length c0) ∧ xs[i].length ≤ c0 ∧ (Kd.int .i64).C w A0 xs[i].length xs[i] := by
  obtain ⟨ad, c, e, _, hK, hc0⟩ := Kd.C_get h ([] : List Int) (i : Int) uR uR
  rw [Int.toNat_natCast, List.getD_eq_getElem?_getD, List.getElem?_eq_getElem hi, Option.getD_some] at hK
  have hc : ∀ j u, c[j]? = some u → w.cell? (ad.add ((i : Int).toNat * 1 + j)) = some u := hc0
  obtain ⟨A0, c0, rfl, l0, g0⟩ := hK
  exact ⟨ad, A0, c0, e, by have hq := hc 0 _ rfl; rwa [Nat.mul_one, Nat.add_zero, Int.toNat_natCast] at hq, l0, g0⟩
theorem at_I {w : World} {A : Option Addr} {n : Nat} {xs : List Int} (h : Kd.C (Kd.int .i64) w A n xs) (i : Nat) (h1 : i < n) (hi : i < xs.length) : ∃ ad, A = some ad ∧ w.cell? (ad.add i) = some (.int .i64 xs[i]) := by
  obtain ⟨ad, e, hc⟩ := Kd.at_int h (i : Int) uR uR
  refine ⟨ad, e, ?_⟩
  rw [Int.toNat_natCast] at hc
  have : rd xs (i : Int) = xs[i] := by unfold rd; rw [Int.toNat_natCast, List.getD_eq_getElem?_getD, List.getElem?_eq_getElem hi]; rfl
  rw [this] at hc
  exact hc
set_option maxHeartbeats 2000000 in
set_option maxRecDepth 100000 in
/-- What stands in row i and column j of a product. -/
theorem dot_calls (A0 : Option Addr) (c0 : Nat) (l0 : List (List Int)) (A1 : Option Addr) (c1 : Nat) (l1 : List (List Int)) (n m : Nat) (i j : Nat) (g1 g2 : Nat) (w : World)
    (hr0 : Kd.C (Kd.slice 3 (Kd.int .i64)) w A0 l0.length l0) (hr1 : Kd.C (Kd.slice 3 (Kd.int .i64)) w A1 l1.length l1)
    (b1 : w.cell? ⟨g1, 0, none⟩ = some (.slice A0 l0.length c0)) (b2 : w.cell? ⟨g2, 0, none⟩ = some (.slice A1 l1.length c1))
    (hm0 : okMat l0 n = true) (hm1 : okMat l1 m = true) (hn : n = l1.length) (hi : i < l0.length) (hj : j < m) (hn2 : n ≤ 12) :
    Calls Try.prog 64 #[.int .i64 i, .int .i64 j, .pointer (some ⟨g1, 0, none⟩), .pointer (some ⟨g2, 0, none⟩)] w fun e w' => e = .returned (.int .i64 (toI (dotF (fun k => ent l0 i k) (fun k => ent l1 k j) n))) ∧ Drawn0 w w' := by
  obtain ⟨ad0, R0, d0, e0, x0, _, y0⟩ := at_L1 hr0 i hi hi
  have hlen := (okMat_row hm0 hi).1
  rw [hlen] at x0 y0
  subst e0
  have HR1 := Aside0.mk hr1
  have HM0 := Aside0.mk hm0
  have HM1 := Aside0.mk hm1
  have HL := Aside0.mk hlen
  have HY := Aside0.mk y0
  have HN := Aside0.mk hn
  clear hr0 hr1 hm0 hm1 hlen y0 hn
  have q1 : decide ((i : Int) < (l0.length : Int)) = true := decide_eq_true uR
  go_enter Try.func64, Try.ntmps64
  go_wp2
  go_loopw [7, 16] (fun x k wr => ∃ p q : Nat, k = .int .i64 p ∧ p ≤ n ∧ x = .int .i64 (toI (dotF (fun k => ent l0 i k) (fun k => ent l1 k j) p)) ∧ wr = w.drewN q) (fun _ k _ => n - (intOf k).toNat)
  case atStart => exact ⟨0, 0, rfl, Nat.zero_le _, rfl, rfl⟩
  case round =>
    obtain ⟨p, q, rfl, hp, rfl, rfl⟩ := hrel
    by_cases hlt : p < n
    · obtain ⟨hp0, hv0⟩ := ent_get HM0.out hi hlt
      obtain ⟨adr, er, xr⟩ := at_I HY.out p uR hp0
      rw [hv0] at xr
      have hpl : p < l1.length := by have := HN.out; omega
      obtain ⟨ad1, R1, d1, e1, x1, _, y1⟩ := at_L1 HR1.out p hpl hpl
      obtain ⟨hj0, hv1⟩ := ent_get HM1.out hpl hj
      have hl1 := (okMat_row HM1.out hpl).1
      obtain ⟨adc, ec, xc⟩ := at_I y1 j uR hj0
      rw [hv1] at xc
      rw [hl1] at x1
      subst er e1 ec
      have HT := Aside0.mk (GfsGf.times_f (show 8 < 9 by omega) (ent l0 i p) (ent l1 p j))
      have HX := Aside0.mk (xor_i64 (dotF (fun k => ent l0 i k) (fun k => ent l1 k j) p) (fm (ent l0 i p) (ent l1 p j)))
      have HD := Aside0.mk (show dotF (fun k => ent l0 i k) (fun k => ent l1 k j) (p + 1) = dotF (fun k => ent l0 i k) (fun k => ent l1 k j) p ^^^ fm (ent l0 i p) (ent l1 p j) from rfl)
      clear y1 hv0 hv1 hl1
      generalize dotF (fun k => ent l0 i k) (fun k => ent l1 k j) p = acc at *
      generalize ent l0 i p = va at *
      generalize ent l1 p j = vb at *
      have q2 : decide ((p : Int) < (n : Int)) = true := decide_eq_true uR
      have q3 : decide ((p : Int) < (l1.length : Int)) = true := decide_eq_true uR
      have q4 : decide ((j : Int) < (m : Int)) = true := decide_eq_true uR
      go_wp2_with (go_at_call 65; refine (GGf.gf_Times.calls 9 _ _ _ _ HT.out).mono ?_; rintro e w' ⟨rfl, ⟨nd, rfl⟩⟩)
      go_roundw
      case rel => exact ⟨p + 1, q + nd, by go_num, uR, by rw [HX.out, HD.out], rfl⟩
      case measure => simp [intOf]; omega
    · have hpn : p = n := by omega
      subst hpn
      go_wp2
      go_ret
      exact ⟨rfl, ⟨q, rfl⟩⟩
/-- May the product be made? -/
def mulOk (l0 l1 : List (List Int)) (m : Nat) : Bool := okMat l0 l1.length && okMat l1 m && decide (l1.length ≤ 12)
def dotAt (l0 l1 : List (List Int)) (m : Nat) (a b : Int) : Option Int :=
  if 0 ≤ a ∧ a < (l0.length : Int) ∧ 0 ≤ b ∧ b < (m : Int) then some (toI (dotF (fun k => ent l0 a.toNat k) (fun k => ent l1 k b.toNat) l1.length)) else none
def mulMade.f (k : Nat) (a0 a1 : Int) (l0 l1 : List (List Int)) : Option (List (List Int)) :=
  if mulOk l0 l1 a1.toNat = true ∧ a1 = (a1.toNat : Int) then matrix_made.f (dotAt l0 l1 a1.toNat) k a0 a1 else none
theorem mulMade.mono : ∀ a0 a1 l0 l1 k, LeO (mulMade.f k a0 a1 l0 l1) (mulMade.f (k + 1) a0 a1 l0 l1) := by
  intro a0 a1 l0 l1 k
  unfold mulMade.f
  refine LeO.ite (matrix_made.mono _ _ _ _) (LeO.none _)
theorem mulMade.callsP (k : Nat) (a0 a1 : Int) (A0 : Option Addr) (c0 : Nat) (l0 : List (List Int)) (A1 : Option Addr) (c1 : Nat) (l1 : List (List Int)) (r : List (List Int)) (g1 g2 : Nat) (w : World)
    (hr0 : Kd.C (Kd.slice 3 (Kd.int .i64)) w A0 l0.length l0) (_hc0 : l0.length ≤ c0) (hr1 : Kd.C (Kd.slice 3 (Kd.int .i64)) w A1 l1.length l1) (_hc1 : l1.length ≤ c1)
    (b1 : w.heap[g1]? = some (.cells #[.slice A0 l0.length c0] 24 (0, 0))) (b2 : w.heap[g2]? = some (.cells #[.slice A1 l1.length c1] 24 (0, 0))) (h : mulMade.f k a0 a1 l0 l1 = some r) :
    Calls Try.prog 63 #[.int .i64 a0, .int .i64 a1, .func (.func 64) #[] #[.pointer (some ⟨g1, 0, none⟩), .pointer (some ⟨g2, 0, none⟩)]] w fun e w' => ∃ v0_ : Value, e = .returned (.agg #[v0_]) ∧ Kd.S (Kd.slice 3 (Kd.int .i64)) 25 w' w.heap.size (fun _ => True) v0_ r ∧ Below w.heap.size w w' := by
  unfold mulMade.f at h
  split at h
  · rename_i hok
    obtain ⟨hok, ha1⟩ := hok
    unfold mulOk at hok
    rw [Bool.and_eq_true, Bool.and_eq_true] at hok
    obtain ⟨⟨h0, h1⟩, h2⟩ := hok
    refine matrix_made.calls Try.func64 uP rfl #[.pointer (some ⟨g1, 0, none⟩), .pointer (some ⟨g2, 0, none⟩)] (dotAt l0 l1 a1.toNat) k a0 a1 r w (fun a b t W hb ht => ?_) h
    unfold dotAt at ht
    split at ht
    · rename_i hab
      have e := Option.some.inj ht
      subst e
      obtain ⟨i, rfl⟩ := Int.eq_ofNat_of_zero_le hab.1
      obtain ⟨j, rfl⟩ := Int.eq_ofNat_of_zero_le hab.2.2.1
      have c1' := (blk_cell b1 0).trans (show (#[Value.slice A0 l0.length c0] : Array Value)[0]? = _ from rfl)
      have c2' := (blk_cell b2 0).trans (show (#[Value.slice A1 l1.length c1] : Array Value)[0]? = _ from rfl)
      exact dot_calls A0 c0 l0 A1 c1 l1 l1.length a1.toNat i j g1 g2 W (Kd.C_below hr0 hb) (Kd.C_below hr1 hb) (pw_cell_below hb c1') (pw_cell_below hb c2') h0 h1 rfl uR uR (of_decide_eq_true h2)
    · exact absurd ht uS
  · exact absurd h uS
end Go.Proofs.Ytaahnicjjpddjaa.Fn
