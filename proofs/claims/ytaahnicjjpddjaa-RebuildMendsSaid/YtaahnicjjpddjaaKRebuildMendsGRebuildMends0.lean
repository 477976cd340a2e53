/- A text, its first bytes those of another one: the call's walk, by hand. Of the texts: the first has at most 5000 bytes, the other fewer than 2^62. One byte of a text turned: what the walk needs of it. Plain; no condition. Functions of the program as Lean functions, each with a proof that its call comes to what the function says. No condition. -/
import Derived.Test.YtaahnicjjpddjaaKRebuildMendsGRenc1
section
namespace Go.Proofs.Ytaahnicjjpddjaa.Pr
open Go.RowKit Go.Proofs.YtaahnicjjpddjaaW.PrintWords Go.Proofs.YtaahnicjjpddjaaW.PrintLast Go.Proofs.YtaahnicjjpddjaaW.PrintMore Go.Proofs.Ytaahnicjjpddjaa.Fld Go.Proofs.Ytaahnicjjpddjaa.Mat
set_option linter.unusedVariables false
def lieL (a b : ByteArray) (i : Nat) : List Int := (bytesOf b).take i ++ (bytesOf a).drop i
noncomputable def lie.f (a b : ByteArray) : Option ByteArray := if a.size ≤ 5000 ∧ b.size ≤ 4611686018427387904 then some (strOfNums (lieL a b (min a.size b.size))) else none
def by_ (a : ByteArray) (j : Nat) : Int := ((a.data.toList.getD j 0).toNat : Int)
def ByAt (w : World) (g c n i : Nat) (a b : ByteArray) : Prop := ∃ cur : Array Value, w.heap[g]? = some (.cells cur 5 (c, c + 1)) ∧ cur.size = c ∧ n ≤ c ∧ ∀ j, j < n → cur[j]? = some (.int .u8 (if j < i then by_ b j else by_ a j))
theorem ByAt.frozen {w : World} {g c n i : Nat} {a b : ByteArray} (H : ByAt w g c n i a b) {j : Nat} (hj : j < n) : w.frozen? ⟨g, j, none⟩ = false := by
  obtain ⟨cur, h1, h2, h3, _⟩ := H
  unfold World.frozen?
  rw [h1]
  simp
  omega
theorem ByAt.cell {w : World} {g c n i : Nat} {a b : ByteArray} (H : ByAt w g c n i a b) {j : Nat} (hj : j < n) : w.cell? ⟨g, j, none⟩ = some (.int .u8 (if j < i then by_ b j else by_ a j)) := by
  obtain ⟨cur, h1, h2, h3, h4⟩ := H
  unfold World.cell?
  rw [h1]
  exact h4 j hj
theorem ByAt.put {w : World} {g c n i : Nat} {a b : ByteArray} (H : ByAt w g c n i a b) (hi : i < n) : ByAt (w.setCell ⟨g, i, none⟩ (.int .u8 (by_ b i))) g c n (i + 1) a b := by
  obtain ⟨cur, h1, h2, h3, h4⟩ := H
  refine ⟨cur.setIfInBounds i (.int .u8 (by_ b i)), ?_, by simp [h2], h3, fun j hj => ?_⟩
  · simp only [World.setCell, Array.getElem?_modify, if_true, h1, Option.map_some]
    rfl
  · rw [Array.getElem?_setIfInBounds]
    split
    · subst_vars; rw [if_pos uV, if_pos uV]
    · rw [h4 j hj]
      by_cases hji : j < i
      · rw [if_pos hji, if_pos uV]
      · rw [if_neg hji, if_neg uV]
theorem ByAt.reads {w : World} {g c n i : Nat} {a b : ByteArray} (H : ByAt w g c n i a b) (hn : n = a.size) (hi : i ≤ n) (hib : i ≤ b.size) (hm : n ≤ 9223372036854775807) : ReadsInt w .u8 (some ⟨g, 0, none⟩) n (lieL a b i) := by
  have hb : (bytesOf b).length = b.size := bytesOf_length b
  have ha : (bytesOf a).length = a.size := bytesOf_length a
  refine ⟨by unfold lieL; rw [List.length_append, List.length_take, List.length_drop]; omega, hm, fun _ => ⟨_, rfl, fun j hj => ?_⟩⟩
  rw [add_plain, H.cell hj]
  congr 2
  unfold lieL by_
  have hbd : b.data.toList.length = b.size := data_length b
  have had : a.data.toList.length = a.size := data_length a
  simp only [List.getD_eq_getElem?_getD]
  by_cases h : j < i
  · rw [if_pos h, List.getElem?_append_left (by rw [List.length_take]; omega), List.getElem?_take_of_lt h]
    have h' : j < b.data.toList.length := by omega
    unfold bytesOf
    rw [List.getElem?_map, List.getElem?_eq_getElem h']
    rfl
  · rw [if_neg h, List.getElem?_append_right (by rw [List.length_take]; omega), List.getElem?_drop, List.length_take, hb, Nat.min_eq_left hib, Nat.add_sub_cancel' (by omega : i ≤ j)]
    have h' : j < a.data.toList.length := by omega
    unfold bytesOf
    rw [List.getElem?_map, List.getElem?_eq_getElem h']
    rfl
end Go.Proofs.Ytaahnicjjpddjaa.Pr
end
section
namespace Go.Proofs.Ytaahnicjjpddjaa.Pr
open Go.RowKit Go.Proofs.YtaahnicjjpddjaaW.PrintWords Go.Proofs.YtaahnicjjpddjaaW.PrintLast Go.Proofs.YtaahnicjjpddjaaW.PrintMore Go.Proofs.Ytaahnicjjpddjaa.Fld Go.Proofs.Ytaahnicjjpddjaa.Mat
noncomputable def mendV (b i : Int) (s : ByteArray) : Int := Go.bits .xor .u8 (by_ s i.toNat) (IntKind.u8.wrap (wrap64 (1 + Go.bits .and .i64 b 127)))
noncomputable def mendF (b i : Int) (s : ByteArray) : ByteArray := strOfNums ((bytesOf s).set i.toNat (mendV b i s))
theorem mendF_size (b i : Int) (s : ByteArray) : (mendF b i s).size = s.size := by
  unfold mendF
  rw [strOfNums_size, List.length_set, bytesOf_length]
section
variable {P : Program} {ops : Array Oper} {rest : List Oper} {o : Oper} {a : Act} {Q : Exit → Act → World → Prop}
theorem conv_event {W : World} (hgd : o.guard = none) {N : Tmp} (_hd : o.dst = some N) {s : ByteArray}
    (hrun : (execOp a.eval o).run P W = .ok (.value (.slice (some ⟨W.heap.size, 0, none⟩) s.size (grownCap W s.size 0 5))) (Lib.bytesWorld W 5 s))
    (h : ∀ g c cc w1, g = W.heap.size → ByAt w1 g c s.size 0 s s → Below W.heap.size W w1 → wpList P ops Q rest (a.put o.dst (.slice (some ⟨g, 0, none⟩) s.size cc)) w1) : wpList P ops Q (o :: rest) a W :=
  Kd.event_run hgd hrun (h _ _ _ _ rfl ⟨_, Lib.bytesWorld_at_new W 5 s, rfl, by simp [Lib.bytesCells], fun j hj => by
    have := Lib.bytesWorld_cell W 5 s j hj
    unfold World.cell? at this
    rw [Lib.bytesWorld_at_new] at this
    rw [if_neg (Nat.not_lt_zero j)]
    exact this⟩ (bytes_below (Below.refl _ _) (Nat.le_refl _) 5 s))
end
theorem string_of_cells {P : Program} {w : World} {src dst e : TypeId} {ad : Addr} {n c : Nat} {xs : List Int} (hs : P.underlying src = some (.slice e)) (he : P.underlying e = some (.int .u8)) (hd : P.underlying dst = some .string)
    (h : xs.length = n ∧ ∀ j, j < n → w.cell? (ad.add j) = some (.int .u8 (xs.getD j 0))) : (convert src dst (.slice (some ad) n c)).run P w = .ok (.string (strOfNums xs)) w := by
  obtain ⟨hn, hc⟩ := h
  have hl : (loadCells ad n).run P w = .ok (xs.map (Value.int .u8)).toArray w := by
    have := run_loadCells_list (P := P) w ad (xs.map (Value.int .u8)) (fun j v hj => by
      have hjl : j < xs.length := by
        rcases Nat.lt_or_ge j xs.length with h' | h'
        · exact h'
        · rw [List.getElem?_eq_none (by rw [List.length_map]; exact h')] at hj
          cases hj
      rw [hc j uV]
      rw [List.getElem?_map, List.getElem?_eq_getElem hjl] at hj
      simp at hj
      subst hj
      simp [List.getD_eq_getElem?_getD, List.getElem?_eq_getElem hjl])
    simpa [hn] using this
  rw [run_convert_bytes_string w src dst e _ n c hs he hd, run_bytesToString w ad n c xs hl, foldl_push_bytes]
  simp [strOfNums, ByteArray.empty, ByteArray.emptyWithCapacity]
  rfl
theorem ByAt.mend {w : World} {g c : Nat} {s : ByteArray} (H : ByAt w g c s.size 0 s s) {j : Nat} (hj : j < s.size) (v : Int) : ((bytesOf s).set j v).length = s.size ∧ ∀ i, i < s.size → (w.setCell ⟨g, j, none⟩ (.int .u8 v)).cell? ((⟨g, 0, none⟩ : Addr).add i) = some (.int .u8 (((bytesOf s).set j v).getD i 0)) := by
  have hs : (bytesOf s).length = s.size := bytesOf_length s
  obtain ⟨cur, h1, h2, h3, h4⟩ := H
  have hw : (w.setCell ⟨g, j, none⟩ (.int .u8 v)).heap[g]? = some (.cells (cur.setIfInBounds j (.int .u8 v)) 5 (c, c + 1)) := by
    simp only [World.setCell, Array.getElem?_modify, if_true, h1, Option.map_some]
    rfl
  refine ⟨by rw [List.length_set]; exact hs, fun i hi => ?_⟩
  rw [add_plain]
  unfold World.cell?
  simp only [hw]
  show (cur.setIfInBounds j (.int .u8 v))[i]? = _
  rw [Array.getElem?_setIfInBounds, List.getD_eq_getElem?_getD, List.getElem?_set]
  by_cases e : j = i
  · subst e
    rw [if_pos rfl, if_pos rfl, if_pos uV, if_pos uV]
    rfl
  · rw [if_neg e, if_neg e, h4 i hi, if_neg (Nat.not_lt_zero i)]
    unfold by_ bytesOf
    have h' : i < s.data.toList.length := by rw [data_length]; exact hi
    rw [List.getElem?_map, List.getD_eq_getElem?_getD, List.getElem?_eq_getElem h']
    rfl
end Go.Proofs.Ytaahnicjjpddjaa.Pr
end
section
namespace Go.Proofs.Ytaahnicjjpddjaa.GRebuildMends
open Go.Proofs.Ytaahnicjjpddjaa.Fn
open Go.Proofs.Ytaahnicjjpddjaa
open Go.RowKit Go.Proofs.YtaahnicjjpddjaaW.PrintWords Go.Proofs.YtaahnicjjpddjaaW.PrintLast
set_option linter.unusedVariables false
set_option linter.unusedSimpArgs false
noncomputable def errW : Option Int → Value
 | none => .nilIface
 | some c => .iface 0 (.int .i64 c)
theorem errW_none : errW none = .nilIface := rfl
theorem errW_some (c : Int) : errW (some c) = .iface 0 (.int .i64 c) := rfl
theorem info4 : (Try.prog.info? 4).map (fun i => (i.zero, i.size, i.bytes)) = some (some (.bool false), 1, 1) := by kernel_rfl
theorem info9 : (Try.prog.info? 9).map (fun i => (i.zero, i.size, i.bytes)) = some (some (.string ⟨#[]⟩), 1, 16) := by kernel_rfl
end Go.Proofs.Ytaahnicjjpddjaa.GRebuildMends
end
