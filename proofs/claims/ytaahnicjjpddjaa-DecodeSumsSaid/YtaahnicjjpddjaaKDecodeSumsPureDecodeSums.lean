/- What is decoded of sums is the sum of what is decoded: at every input. -/
import Derived.Test.YtaahnicjjpddjaaKDecodeSumsGDecodeSums2
import Derived.Test.YtaahnicjjpddjaaKDecodeSumsWordLaw
import Derived.Test.YtaahnicjjpddjaaKDecodeSumsRvc
namespace Go.Proofs.Ytaahnicjjpddjaa.Pure
open Go.RowKit Go.Proofs.Ytaahnicjjpddjaa.GDecodeSums Go.Proofs.YtaahnicjjpddjaaW.PrintWords Go.Proofs.YtaahnicjjpddjaaW.PrintLast Go.Proofs.YtaahnicjjpddjaaW.PrintMore Go.Proofs.Ytaahnicjjpddjaa.Fld Go.Proofs.Ytaahnicjjpddjaa.Mat Go.Proofs.Ytaahnicjjpddjaa.Fn Go.Proofs.Ytaahnicjjpddjaa.Pr Go.Proofs.Ytaahnicjjpddjaa.Enc
open Go.Proofs.Ytaahnicjjpddjaa.GvcVec (combine alikeB alikeB_size row0 row0_mem bF ba_bytes)
open Go.Proofs.Ytaahnicjjpddjaa.Rvc (rcomb)

theorem awake7_f {k : Nat} (hk : 61000 < k) : ossuarylaw7_awake.f k = some true := by
  unfold ossuarylaw7_awake.f
  have e1 : GEnc.decode_Decode.f k 2 1 [⟨#[]⟩, ⟨#[98]⟩, ⟨#[103]⟩] [false, true, true] = some ([⟨#[97]⟩, ⟨#[98]⟩], 0) :=
    dec_word hk (d := 2) (p := 1) (by omega) (by omega) (by omega) (data := [⟨#[97]⟩, ⟨#[98]⟩]) rfl (by decide +kernel) rfl rfl (by decide) (by decide +kernel) (fun t ht => by
      unfold word
      rw [par21]
      rcases (show t = 0 ∨ t = 1 by omega) with rfl | rfl <;> rfl)
  have e2 : GEnc.decode_Decode.f k 2 1 [⟨#[]⟩, ⟨#[98]⟩, ⟨#[]⟩] [false, true, false] = some ([], 701) :=
    dec_few hk (d := 2) (p := 1) (by omega) (by omega) (by omega) rfl rfl (by decide) (by decide +kernel)
  have e3 : GEnc.decode_Decode.f k 2 1 [⟨#[]⟩, ⟨#[98]⟩] [false, true] = some ([], 700) := dec_no hk 2 1 _ _ (by simp)
  rw [e1, e2, e3]
  simp only [Option.bind_some, num_f]
  rw [same_self _ (by decide) (by simp; omega)]
  rfl
/-- a sum of two texts. -/
def two (x y : ByteArray) : ByteArray := cmb 2 (fun _ => 1#8) [x, y]
theorem alike2 {x y : ByteArray} {m : Nat} (hm : m ≤ 4096) (hx : x.size = m) (hy : y.size = m) : alikeB [x, y] = true := alike_all hm (fun z hz => by
  rcases List.mem_cons.1 hz with rfl | hz
  · exact hx
  · rw [List.mem_singleton.1 hz]; exact hy)
theorem two_comb {k : Nat} (hk : 60000 < k) {x y : ByteArray} {m : Nat} (hm : m ≤ 4096) (hx : x.size = m) (hy : y.size = m) : GRef.ossuaryref1_Combine.f k [1, 1] [x, y] = some (two x y, 0) := by
  rw [rcomb hk _ _ (by simp)]
  exact congrArg some (cmb_eq (d := 2) (fun _ => 1#8) (rows := [x, y]) (by omega) (by omega) rfl (alike2 hm hx hy))
theorem two_size {x y : ByteArray} {m : Nat} (hm : m ≤ 4096) (hx : x.size = m) (hy : y.size = m) : (two x y).size = m := by
  unfold two
  rw [cmb_size (d := 2) _ (by omega) (by omega) rfl (alike2 hm hx hy)]
  exact hx
theorem two_byte {x y : ByteArray} {m : Nat} (hm : m ≤ 4096) (hx : x.size = m) (hy : y.size = m) (j : Nat) (hj : j < m) : bF (two x y) j = bF x j ^^^ bF y j := by
  unfold two
  rw [cmb_byte (d := 2) _ (by omega) (by omega) rfl (alike2 hm hx hy) j (by show j < x.size; omega)]
  show (0#8 ^^^ fm 1#8 (bF x j)) ^^^ fm 1#8 (bF y j) = _
  rw [one_fm, one_fm, BitVec.zero_xor]
theorem inv_one' {d : Nat} {y y' m : Nat → Nat → F} (h : eqM d (mm d y m) delta) (h' : eqM d (mm d y' m) delta) : eqM d y y' := fun i j hi hj => by
  have hr := right_of_left h'
  have e1 : mm d y (mm d m y') i j = y i j := (mm_congr d y y _ delta i j (fun _ _ => rfl) (fun k hk => hr k j hk hj)).trans (mm_delta d y i j hj)
  rw [← e1, ← mm_assoc]
  exact (mm_congr d _ delta y' y' i j (fun k hk => h i k hi hk) (fun _ _ => rfl)).trans (delta_mm d y' i j hi)
theorem rowOf_congr' {g h : Nat → Int} {n : Nat} (e : ∀ j, j < n → g j = h j) : rowOf g n = rowOf h n := List.map_congr_left (fun j hj => e j (List.mem_range.1 hj))
theorem decd_congr' {d : Nat} {y y' : Nat → Nat → F} (h : eqM d y y') (own : List ByteArray) : decd d y own = decd d y' own := by
  unfold decd
  refine List.map_congr_left (fun i hi => ?_)
  have hi' := List.mem_range.1 hi
  unfold cmb
  rw [rowOf_congr' (fun j hj => by rw [h i j hi' hj])]
theorem decd_get (d : Nat) (y : Nat → Nat → F) (own : List ByteArray) (i : Nat) (hi : i < d) : txt (decd d y own) i = cmb d (y i) own := by
  rw [txt_get _ _ (by rw [decd_length]; exact hi)]
  simp [decd]
/-- texts, each of m bytes. -/
def Of (m : Nat) (xs : List ByteArray) : Prop := ∀ x ∈ xs, x.size = m
theorem cmb_of {d m : Nat} (f : Nat → F) {rows : List ByteArray} (hm : m ≤ 4096) (h1 : 1 ≤ d) (h2 : d ≤ 12) (hl : rows.length = d) (h : Of m rows) : (cmb d f rows).size = m := by
  rw [cmb_size f h1 h2 hl (alike_all hm h)]
  exact row0_size h (by omega)
theorem decd_two {d m : Nat} (hm : m ≤ 4096) (h1 : 1 ≤ d) (h2 : d ≤ 12) (y : Nat → Nat → F) {ox oy oz : List ByteArray} (lx : ox.length = d) (ly : oy.length = d) (lz : oz.length = d) (sx : Of m ox) (sy : Of m oy) (sz : Of m oz)
    (hz : ∀ t, t < d → txt oz t = two (txt ox t) (txt oy t)) (i : Nat) : two (cmb d (y i) ox) (cmb d (y i) oy) = cmb d (y i) oz := by
  have cx := cmb_of (y i) hm h1 h2 lx sx
  have cy := cmb_of (y i) hm h1 h2 ly sy
  have cz := cmb_of (y i) hm h1 h2 lz sz
  have c2 := two_size hm cx cy
  refine ba_bytes (by rw [c2, cz]) (fun j hj => ?_)
  rw [c2] at hj
  rw [two_byte hm cx cy j hj, cmb_byte _ h1 h2 lx (alike_all hm sx) j (by rw [row0_size sx (by omega)]; exact hj), cmb_byte _ h1 h2 ly (alike_all hm sy) j (by rw [row0_size sy (by omega)]; exact hj), cmb_byte _ h1 h2 lz (alike_all hm sz) j (by rw [row0_size sz (by omega)]; exact hj), ← sum_xor]
  refine sum_congr _ _ _ (fun t ht => ?_)
  have e := hz t ht
  have ex : (txt ox t).size = m := by rw [txt_get _ _ (by omega)]; exact sx _ (List.getElem_mem _)
  have ey : (txt oy t).size = m := by rw [txt_get _ _ (by omega)]; exact sy _ (List.getElem_mem _)
  show fm (y i t) (bF (txt ox t) j) ^^^ fm (y i t) (bF (txt oy t) j) = fm (y i t) (bF (txt oz t) j)
  rw [e, two_byte hm ex ey j hj, fm_xor]
/-- equal pieces of a text. -/
def piece (t : ByteArray) (m i : Nat) : ByteArray := t.extract (m * i) (m * i + m)
def pieces (t : ByteArray) (m n : Nat) : List ByteArray := (List.range n).map (piece t m)
def sums (a b : ByteArray) (m n : Nat) : List ByteArray := (List.range n).map fun i => two (piece a m i) (piece b m i)
theorem pieces_succ (t : ByteArray) (m n : Nat) : pieces t m (n + 1) = pieces t m n ++ [piece t m n] := by unfold pieces; rw [List.range_succ, List.map_append]; rfl
theorem sums_succ (a b : ByteArray) (m n : Nat) : sums a b m (n + 1) = sums a b m n ++ [two (piece a m n) (piece b m n)] := by unfold sums; rw [List.range_succ, List.map_append]; rfl
theorem pieces_length (t : ByteArray) (m n : Nat) : (pieces t m n).length = n := by simp [pieces]
theorem sums_length (a b : ByteArray) (m n : Nat) : (sums a b m n).length = n := by simp [sums]
theorem piece_size {t : ByteArray} {m n i : Nat} (h : m * n ≤ t.size) (hi : i < n) : (piece t m i).size = m := by
  have h2 : m * i + m ≤ m * n := by rw [← Nat.mul_succ]; exact Nat.mul_le_mul_left m hi
  unfold piece
  rw [ByteArray.size_extract]
  omega
theorem pieces_txt (t : ByteArray) (m n i : Nat) (hi : i < n) : txt (pieces t m n) i = piece t m i := by rw [txt_get _ _ (by rw [pieces_length]; exact hi)]; simp [pieces]
theorem sums_txt (a b : ByteArray) (m n i : Nat) (hi : i < n) : txt (sums a b m n) i = two (piece a m i) (piece b m i) := by rw [txt_get _ _ (by rw [sums_length]; exact hi)]; simp [sums]
theorem own_of {m K : Nat} {xs : List ByteArray} {hv : List Bool} (hl : hv.length = K) (h : ∀ r, r < K → (txt xs r).size = m) : Of m (ownOf xs hv) := fun x hx => by
  unfold ownOf at hx
  obtain ⟨r, hr, rfl⟩ := List.mem_map.1 hx
  exact h r (by have := (had_lo hv 0 r hr).2.1; omega)
theorem own_txt {xs : List ByteArray} {hv : List Bool} {d t : Nat} (ht : t < d) (hd : d ≤ (had hv 0).length) : txt ((ownOf xs hv).take d) t = txt xs ((had hv 0).getD t 0) := by
  rw [txt_get _ _ (by rw [List.length_take, own_length]; omega), List.getElem_take]
  unfold ownOf
  rw [List.getElem_map, getD_get _ _ _ (by omega)]
/-- decoding of texts alike, enough of them there. -/
theorem dec_y {k : Nat} (hk : 61000 < k) {d m : Nat} (hm : m ≤ 4096) (h1 : 1 ≤ d) (h2 : d ≤ 4) {xs : List ByteArray} {hv : List Bool} (hs : xs.length = d + 2) (hh : hv.length = d + 2) (hd : d ≤ (had hv 0).length) (h : ∀ r, r < d + 2 → (txt xs r).size = m) :
    ∃ y, eqM d (mm d y (fun i j => code d ((had hv 0).getD i 0) j)) delta ∧ GEnc.decode_Decode.f k (d : Int) 2 xs hv = some (decd d y ((ownOf xs hv).take d), 0) := by
  have e := dec_f hk d 2 h1 h2 (by omega) xs hv hs hh
  unfold decEnd at e
  rw [if_pos (alike_all hm (own_of hh h)), if_neg (by omega)] at e
  exact e
theorem sums_2 (d m : Nat) (hm : m ≤ 4096) (p q r : List ByteArray) (lp : p.length = d) (lq : q.length = d) (lr : r.length = d) (hd : d ≤ 4) (sp : ∀ i, i < d → (txt p i).size = m) (sq : ∀ i, i < d → (txt q i).size = m) (hr : ∀ i, i < d → two (txt p i) (txt q i) = txt r i) (e : Nat) :
    ∀ (k i : Nat), i + e = d → 60001 + e < k → ossuarylaw7_DecodeSums.l2 k p q r (i : Int) (d : Int) 2 = some true := by
  induction e with
  | zero =>
    intro k i hi hk
    obtain ⟨k, rfl⟩ : ∃ m, k = m + 1 := ⟨k - 1, by omega⟩
    simp only [ossuarylaw7_DecodeSums.l2]
    rw [if_neg (by omega)]
  | succ e ih =>
    intro k i hi hk
    obtain ⟨k, rfl⟩ : ∃ m, k = m + 1 := ⟨k - 1, by omega⟩
    have ih' := ih k (i + 1) (by omega) (by omega)
    simp only [ossuarylaw7_DecodeSums.l2]
    rw [if_pos (by omega), if_pos (by omega), if_pos (by omega), if_pos (by omega), rd_txt, rd_txt, rd_txt, two_comb (by omega) hm (sp i (by omega)) (sq i (by omega))]
    simp only [Option.bind_some, if_true]
    rw [if_pos (by omega), hr i (by omega), if_pos rfl, succ_wrap i (by omega)]
    exact ih'
theorem sums_fin (d m : Nat) (hm : m ≤ 4096) (h1 : 1 ≤ d) (h2 : d ≤ 4) (y : Nat → Nat → F) {ox oy oz : List ByteArray} (lx : ox.length = d) (ly : oy.length = d) (lz : oz.length = d) (sx : Of m ox) (sy : Of m oy) (sz : Of m oz)
    (hz : ∀ t, t < d → txt oz t = two (txt ox t) (txt oy t)) (k : Nat) (hk : 60010 < k) : ossuarylaw7_DecodeSums.l2 k (decd d y ox) (decd d y oy) (decd d y oz) 0 (d : Int) 2 = some true :=
  sums_2 d m hm (decd d y ox) (decd d y oy) (decd d y oz) (decd_length d y ox) (decd_length d y oy) (decd_length d y oz) h2
    (fun i hi => by rw [decd_get d y ox i hi]; exact cmb_of _ hm h1 (by omega) lx sx) (fun i hi => by rw [decd_get d y oy i hi]; exact cmb_of _ hm h1 (by omega) ly sy)
    (fun i hi => by rw [decd_get d y ox i hi, decd_get d y oy i hi, decd_get d y oz i hi]; exact decd_two hm h1 (by omega) y lx ly lz sx sy sz hz i) d k 0 (by omega) (by omega)
theorem sums_end {k : Nat} (hk : 61100 < k) (d m : Nat) (hm : m ≤ 30) (h1 : 1 ≤ d) (h2 : d ≤ 4) (a b : ByteArray) (ha : m * (d + 2) ≤ a.size) (hb : m * (d + 2) ≤ b.size) (hv : List Bool) (hh : hv.length = d + 2) (hd : d ≤ (had hv 0).length) :
    ossuarylaw7_DecodeSums.l1 k a b ((d + 2 : Nat) : Int) (m : Int) hv (pieces a m (d + 2)) (pieces b m (d + 2)) (sums a b m (d + 2)) ((d + 2 : Nat) : Int) (d : Int) 2 = some true := by
  have sx : ∀ r, r < d + 2 → (txt (pieces a m (d + 2)) r).size = m := fun r hr => by rw [pieces_txt _ _ _ _ hr]; exact piece_size ha hr
  have sy : ∀ r, r < d + 2 → (txt (pieces b m (d + 2)) r).size = m := fun r hr => by rw [pieces_txt _ _ _ _ hr]; exact piece_size hb hr
  have sz : ∀ r, r < d + 2 → (txt (sums a b m (d + 2)) r).size = m := fun r hr => by rw [sums_txt _ _ _ _ _ hr]; exact two_size (by omega) (piece_size ha hr) (piece_size hb hr)
  obtain ⟨k, rfl⟩ : ∃ m, k = m + 1 := ⟨k - 1, by omega⟩
  obtain ⟨y, hy, ex⟩ := dec_y (show 61000 < k by omega) (show m ≤ 4096 by omega) h1 h2 (pieces_length a m (d + 2)) hh hd sx
  obtain ⟨y2, hy2, ey⟩ := dec_y (show 61000 < k by omega) (show m ≤ 4096 by omega) h1 h2 (pieces_length b m (d + 2)) hh hd sy
  obtain ⟨y3, hy3, ez⟩ := dec_y (show 61000 < k by omega) (show m ≤ 4096 by omega) h1 h2 (sums_length a b m (d + 2)) hh hd sz
  rw [decd_congr' (inv_one' hy2 hy)] at ey
  rw [decd_congr' (inv_one' hy3 hy)] at ez
  have tl : ∀ xs : List ByteArray, ((ownOf xs hv).take d).length = d := fun xs => by rw [List.length_take, own_length]; omega
  have ox : Of m ((ownOf (pieces a m (d + 2)) hv).take d) := fun x hx => own_of hh sx x (List.mem_of_mem_take hx)
  have oy : Of m ((ownOf (pieces b m (d + 2)) hv).take d) := fun x hx => own_of hh sy x (List.mem_of_mem_take hx)
  have oz : Of m ((ownOf (sums a b m (d + 2)) hv).take d) := fun x hx => own_of hh sz x (List.mem_of_mem_take hx)
  have hz : ∀ t, t < d → txt ((ownOf (sums a b m (d + 2)) hv).take d) t = two (txt ((ownOf (pieces a m (d + 2)) hv).take d) t) (txt ((ownOf (pieces b m (d + 2)) hv).take d) t) := fun t ht => by
    have hr : (had hv 0).getD t 0 < d + 2 := by
      rw [getD_get _ _ _ (show t < (had hv 0).length by omega)]
      have := (had_lo hv 0 _ (List.getElem_mem (show t < (had hv 0).length by omega))).2.1
      omega
    rw [own_txt ht hd, own_txt ht hd, own_txt ht hd, sums_txt _ _ _ _ _ hr, pieces_txt _ _ _ _ hr, pieces_txt _ _ _ _ hr]
  have fin := sums_fin d m (by omega) h1 h2 y (tl _) (tl _) (tl _) ox oy oz hz (k - 1) (by omega)
  simp only [ossuarylaw7_DecodeSums.l1]
  rw [if_neg (Int.lt_irrefl _), ex, ey, ez]
  simp only [Option.bind_some, num_f, if_true]
  rw [decd_length, decd_length, decd_length, if_pos rfl, if_pos rfl, bne_self_eq_false]
  obtain ⟨k, rfl⟩ : ∃ m, k = m + 1 := ⟨k - 1, by omega⟩
  simp only [ossuarylaw7_DecodeSums.j2, Bool.false_eq_true, if_false]
  exact fin
theorem sums_s (k d m i q : Nat) (a b : ByteArray) (hv : List Bool) (P Q R : List ByteArray) (s : ByteArray) (hq : q ≤ 30 * 6) (hm : m ≤ 30) (e1 : wrap64 ((m : Int) * (i : Int)) = (q : Int)) (c1 : (i : Int) < ((d + 2 : Nat) : Int)) (c4 : q + m ≤ a.size) (c5 : q + m ≤ b.size)
    (e3 : P.length < 8796093022208) (e4 : Q.length < 8796093022208) (e5 : R.length < 8796093022208) (e6 : wrap64 ((i : Int) + 1) = ((i + 1 : Nat) : Int)) (tc : GRef.ossuaryref1_Combine.f k [1, 1] [a.extract q (q + m), b.extract q (q + m)] = some (s, 0))
    (ih : ossuarylaw7_DecodeSums.l1 k a b ((d + 2 : Nat) : Int) (m : Int) hv (P ++ [a.extract q (q + m)]) (Q ++ [b.extract q (q + m)]) (R ++ [s]) ((i + 1 : Nat) : Int) (d : Int) 2 = some true) :
    ossuarylaw7_DecodeSums.l1 (k + 1) a b ((d + 2 : Nat) : Int) (m : Int) hv P Q R (i : Int) (d : Int) 2 = some true := by
  have e2 : wrap64 ((q : Int) + (m : Int)) = ((q + m : Nat) : Int) := by rw [wrap64_in (by omega) (by omega)]; rfl
  simp only [ossuarylaw7_DecodeSums.l1]
  rw [e1, e2, e6]
  clear e1 e2 e6
  rw [if_pos c1, if_pos (Int.natCast_nonneg _), if_pos (Int.ofNat_le.2 (Nat.le_add_right _ _)), if_pos (Int.ofNat_le.2 c4), if_pos (Int.ofNat_le.2 c5), Int.toNat_natCast, Int.toNat_natCast, tc]
  simp only [Option.bind_some, if_true]
  rw [if_pos e3, if_pos e4, if_pos e5]
  exact ih
theorem sums_1 (d m : Nat) (hm : m ≤ 30) (h1 : 1 ≤ d) (h2 : d ≤ 4) (a b : ByteArray) (ha : m * (d + 2) ≤ a.size) (hb : m * (d + 2) ≤ b.size) (hv : List Bool) (hh : hv.length = d + 2) (hd : d ≤ (had hv 0).length) (e : Nat) :
    ∀ (k i : Nat), i + e = d + 2 → 61200 + e < k → ossuarylaw7_DecodeSums.l1 k a b ((d + 2 : Nat) : Int) (m : Int) hv (pieces a m i) (pieces b m i) (sums a b m i) (i : Int) (d : Int) 2 = some true := by
  induction e with
  | zero =>
    intro k i hi hk
    obtain rfl : i = d + 2 := by omega
    exact sums_end (by omega) d m hm h1 h2 a b ha hb hv hh hd
  | succ e ih =>
    intro k i hi hk
    obtain ⟨k, rfl⟩ : ∃ m, k = m + 1 := ⟨k - 1, by omega⟩
    have ih' := ih k (i + 1) (by omega) (by omega)
    have hmi : m * i ≤ 30 * 6 := Nat.mul_le_mul hm (by omega)
    have hmd : m * i + m ≤ m * (d + 2) := by rw [← Nat.mul_succ]; exact Nat.mul_le_mul_left m (by omega)
    have pa := piece_size ha (show i < d + 2 by omega)
    have pb := piece_size hb (show i < d + 2 by omega)
    have tc := two_comb (show 60000 < k by omega) (show m ≤ 4096 by omega) pa pb
    rw [pieces_succ, pieces_succ, sums_succ] at ih'
    have c4 : m * i + m ≤ a.size := Nat.le_trans hmd ha
    have c5 : m * i + m ≤ b.size := Nat.le_trans hmd hb
    have e1 : wrap64 ((m : Int) * (i : Int)) = ((m * i : Nat) : Int) := by
      rw [show (m : Int) * (i : Int) = ((m * i : Nat) : Int) from (Int.natCast_mul m i).symm]
      exact wrap64_in (by omega) (by omega)
    have e3 : (pieces a m i).length < 8796093022208 := by rw [pieces_length]; omega
    have e4 : (pieces b m i).length < 8796093022208 := by rw [pieces_length]; omega
    have e5 : (sums a b m i).length < 8796093022208 := by rw [sums_length]; omega
    have e6 := succ_wrap i (by omega)
    have c1 : (i : Int) < ((d + 2 : Nat) : Int) := Int.ofNat_lt.2 (by omega)
    clear hmd pa pb ih ha hb hd hh
    unfold piece at tc ih'
    exact sums_s k d m i (m * i) a b hv _ _ _ _ hmi hm e1 c1 c4 c5 e3 e4 e5 e6 tc ih'
theorem sums_0 (d m : Nat) (hm : m ≤ 30) (h1 : 1 ≤ d) (h2 : d ≤ 4) (a b : ByteArray) (ha : m * (d + 2) ≤ a.size) (hb : m * (d + 2) ≤ b.size) (which : Int) (e : Nat) :
    ∀ (k i : Nat) (bs : List Bool), bs.length = i → i + e = d + 2 → d ≤ (had bs 0).length + e → 61300 + e < k → ossuarylaw7_DecodeSums.l0 k a b which ((d + 2 : Nat) : Int) (m : Int) (bs ++ List.replicate e false) (((had bs 0).length : Nat) : Int) (i : Int) (d : Int) 2 = some true := by
  induction e with
  | zero =>
    intro k i bs hl hi hd hk
    obtain ⟨k, rfl⟩ : ∃ m, k = m + 1 := ⟨k - 1, by omega⟩
    simp only [ossuarylaw7_DecodeSums.l0]
    have h := sums_1 d m hm h1 h2 a b ha hb bs (by omega) (by omega) (d + 2) k 0 (by omega) (by omega)
    rw [if_neg (by omega), List.replicate_zero, List.append_nil]
    exact h
  | succ e ih =>
    intro k i bs hl hi hd hk
    obtain ⟨k, rfl⟩ : ∃ m, k = m + 1 := ⟨k - 1, by omega⟩
    have hle := had_len bs 0
    have set : ∀ v, (bs ++ List.replicate (e + 1) false).set i v = (bs ++ [v]) ++ List.replicate e false := fun v => by
      rw [List.set_append_right _ _ (by omega), show i - bs.length = 0 by omega, List.replicate_succ, List.set_cons_zero, List.append_assoc]; rfl
    have hrd : ∀ v, rdOf false ((bs ++ [v]) ++ List.replicate e false) (i : Int) = v := fun v => by
      rw [rd_bool _ i (by simp; omega), List.getElem_append_left (by simp; omega), List.getElem_append_right (by omega)]
      simp
    have had1 : had (bs ++ [true]) 0 = had bs 0 ++ [i] := by rw [had_append, show 0 + bs.length = i by omega]; rfl
    have had0 : had (bs ++ [false]) 0 = had bs 0 := by rw [had_append, show 0 + bs.length = i by omega]; simp [had]
    have t1 : ossuarylaw7_DecodeSums.l0 k a b which ((d + 2 : Nat) : Int) (m : Int) ((bs ++ [true]) ++ List.replicate e false) ((((had bs 0).length + 1 : Nat)) : Int) ((i + 1 : Nat) : Int) (d : Int) 2 = some true := by
      have h := ih k (i + 1) (bs ++ [true]) (by simp; omega) (by omega) (by rw [had1, List.length_append, List.length_singleton]; omega) (by omega)
      rw [had1, List.length_append, List.length_singleton] at h
      exact h
    have t0 : d ≤ (had bs 0).length + e → ossuarylaw7_DecodeSums.l0 k a b which ((d + 2 : Nat) : Int) (m : Int) ((bs ++ [false]) ++ List.replicate e false) (((had bs 0).length : Nat) : Int) ((i + 1 : Nat) : Int) (d : Int) 2 = some true := fun h0 => by
      have h := ih k (i + 1) (bs ++ [false]) (by simp; omega) (by omega) (by rw [had0]; omega) (by omega)
      rw [had0] at h
      exact h
    have hlen : (i : Int) < (((bs ++ List.replicate (e + 1) false).length : Nat) : Int) := by simp; omega
    simp only [ossuarylaw7_DecodeSums.l0]
    rw [if_pos (by omega), if_pos (by omega), Int.toNat_natCast, succ_wrap i (by omega), succ_wrap (had bs 0).length (by omega)]
    by_cases hbit : Go.bits .and .i64 (shr .i64 which (i : Int)) 1 = 1
    · rw [if_pos hbit, if_pos hlen]
      simp only [Option.bind_some]
      rw [set, hrd, if_pos rfl]
      exact t1
    · rw [if_neg hbit, if_pos hlen]
      simp only [Option.bind_some]
      have w1 : wrap64 (((d + 2 : Nat) : Int) - (i : Int)) = ((e + 1 : Nat) : Int) := by rw [wrap64_in (by omega) (by omega)]; omega
      have w2 : wrap64 ((d : Int) - (((had bs 0).length : Nat) : Int)) = (d : Int) - (((had bs 0).length : Nat) : Int) := wrap64_in (by omega) (by omega)
      rw [w1, w2]
      clear w1 w2
      by_cases hq : ((e + 1 : Nat) : Int) ≤ (d : Int) - (((had bs 0).length : Nat) : Int)
      · rw [decide_eq_true hq, set, hrd, if_pos rfl]
        exact t1
      · rw [decide_eq_false hq, set, hrd, if_neg (by decide)]
        exact t0 (by omega)
theorem sums_f {k : Nat} (hk : 61400 < k) (a0 : Int) (a b : ByteArray) (ha : a.size ≤ 140737488351232) (hb : b.size ≤ 140737488351232) (which : Int) : ossuarylaw7_DecodeSums.f k a0 a b which = some true := by
  unfold ossuarylaw7_DecodeSums.f
  rw [awake7_f (by omega)]
  simp only [Option.bind_some, if_true]
  obtain ⟨r, hr, e⟩ := mod_u a0 4 (by omega) (by omega)
  rw [show ((4 : Nat) : Int) = 4 from rfl] at e
  obtain ⟨d, hd⟩ : ∃ d, d = 1 + r := ⟨_, rfl⟩
  have e1 : wrap64 (1 + (r : Int)) = (d : Int) := by rw [wrap64_in (by omega) (by omega)]; omega
  have e2 : wrap64 ((d : Int) + 2) = ((d + 2 : Nat) : Int) := by rw [wrap64_in (by omega) (by omega)]; omega
  rw [e, e1, e2]
  clear e e1 e2
  have size : ∀ s : ByteArray, s.size ≤ 140737488351232 → wrap64 ((s.size : Int) / ((d + 2 : Nat) : Int)) = ((s.size / (d + 2) : Nat) : Int) := fun s hs => by
    rw [show (s.size : Int) / ((d + 2 : Nat) : Int) = ((s.size / (d + 2) : Nat) : Int) from (Int.natCast_ediv _ _).symm]
    have hle : s.size / (d + 2) ≤ s.size := Nat.div_le_self _ _
    generalize s.size / (d + 2) = q at hle ⊢
    exact wrap64_in (by omega) (by omega)
  obtain ⟨m, hm, hma, hmb, em⟩ : ∃ m : Nat, m ≤ 30 ∧ m * (d + 2) ≤ a.size ∧ m * (d + 2) ≤ b.size ∧ Go.Proofs.Ytaahnicjjpddjaa.GDecodeSums.mn (Go.Proofs.Ytaahnicjjpddjaa.GDecodeSums.mn (wrap64 ((a.size : Int) / ((d + 2 : Nat) : Int))) (wrap64 ((b.size : Int) / ((d + 2 : Nat) : Int)))) 30 = (m : Int) := by
    rw [size a ha, size b hb]
    refine ⟨min (min (a.size / (d + 2)) (b.size / (d + 2))) 30, by omega, ?_, ?_, ?_⟩
    · exact Nat.le_trans (Nat.mul_le_mul_right _ (Nat.le_trans (Nat.min_le_left _ _) (Nat.min_le_left _ _))) (Nat.div_mul_le_self _ _)
    · exact Nat.le_trans (Nat.mul_le_mul_right _ (Nat.le_trans (Nat.min_le_left _ _) (Nat.min_le_right _ _))) (Nat.div_mul_le_self _ _)
    · unfold Go.Proofs.Ytaahnicjjpddjaa.GDecodeSums.mn
      repeat' split
      all_goals omega
  rw [em, if_neg (show ¬ ((d + 2 : Nat) : Int) = 0 by omega), if_pos (show (0 : Int) ≤ ((d + 2 : Nat) : Int) by omega), if_pos (show ((d + 2 : Nat) : Int).toNat ≤ 281474976710656 by omega), Int.toNat_natCast]
  exact sums_0 d m hm (by omega) (by omega) a b hma hmb which (d + 2) k 0 [] rfl (by omega) (Nat.le_trans (show d ≤ d + 2 by omega) (Nat.le_add_left _ _)) (by omega)
theorem DecodeSums {G G' : Prop} (a0 : Int) (_ : G) (a : ByteArray) (ha : a.size ≤ 140737488351232) (b : ByteArray) (hb : b.size ≤ 140737488351232) (a3 : Int) (_ : G') : ∃ k, ossuarylaw7_DecodeSums.f k a0 a b a3 = some true := ⟨61401, sums_f (by omega) a0 a b ha hb a3⟩
end Go.Proofs.Ytaahnicjjpddjaa.Pure
