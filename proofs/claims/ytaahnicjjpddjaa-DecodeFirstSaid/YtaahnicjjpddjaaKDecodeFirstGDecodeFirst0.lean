/- A text, its first bytes those of another one: the call's walk, by hand. Of the texts: the first has at most 5000 bytes, the other fewer than 2^62. Functions of the program as Lean functions, each with a proof that its call comes to what the function says. No condition. -/
import Derived.Test.YtaahnicjjpddjaaKDecodeFirstGRenc1
section
namespace Go.Proofs.Ytaahnicjjpddjaa.Pr
open Go.RowKit Go.Proofs.YtaahnicjjpddjaaW.PrintWords Go.Proofs.YtaahnicjjpddjaaW.PrintLast Go.Proofs.YtaahnicjjpddjaaW.PrintMore Go.Proofs.Ytaahnicjjpddjaa.Fld Go.Proofs.Ytaahnicjjpddjaa.Mat
set_option linter.unusedVariables false
def lieL (a b : ByteArray) (i : Nat) : List Int := (bytesOf b).take i ++ (bytesOf a).drop i
noncomputable def lie.f (a b : ByteArray) : Option ByteArray := if a.size ≤ 5000 ∧ b.size ≤ 4611686018427387904 then some (strOfNums (lieL a b (min a.size b.size))) else none
def by_ (a : ByteArray) (j : Nat) : Int := ((a.data.toList.getD j 0).toNat : Int)
def ByAt (w : World) (g c n i : Nat) (a b : ByteArray) : Prop := ∃ cur : Array Value, w.heap[g]? = some (.cells cur 5 (c, c + 1)) ∧ cur.size = c ∧ n ≤ c ∧ ∀ j, j < n → cur[j]? = some (.int .u8 (if j < i then by_ b j else by_ a j))
theorem ByAt.frozen {w : World} {g c n i : Nat} {a b : ByteArray} (H : ByAt w g c n i a b) {j : Nat} (hj : j < n) : w.frozen? ⟨g, j, none⟩ = false := by
  obtain ⟨cur, h1, h2, h3, _⟩ := H
  unfold World.frozen?
  rw [h1]
  simp
  omega
theorem ByAt.cell {w : World} {g c n i : Nat} {a b : ByteArray} (H : ByAt w g c n i a b) {j : Nat} (hj : j < n) : w.cell? ⟨g, j, none⟩ = some (.int .u8 (if j < i then by_ b j else by_ a j)) := by
  obtain ⟨cur, h1, h2, h3, h4⟩ := H
  unfold World.cell?
  rw [h1]
  exact h4 j hj
theorem ByAt.put {w : World} {g c n i : Nat} {a b : ByteArray} (H : ByAt w g c n i a b) (hi : i < n) : ByAt (w.setCell ⟨g, i, none⟩ (.int .u8 (by_ b i))) g c n (i + 1) a b := by
  obtain ⟨cur, h1, h2, h3, h4⟩ := H
  refine ⟨cur.setIfInBounds i (.int .u8 (by_ b i)), ?_, by simp [h2], h3, fun j hj => ?_⟩
  · simp only [World.setCell, Array.getElem?_modify, if_true, h1, Option.map_some]
    rfl
  · rw [Array.getElem?_setIfInBounds]
    split
    · subst_vars; rw [if_pos uW, if_pos uW]
    · rw [h4 j hj]
      by_cases hji : j < i
      · rw [if_pos hji, if_pos uW]
      · rw [if_neg hji, if_neg uW]
theorem by_get (b : ByteArray) (i : Nat) (h : i < b.size) : ((b[i].toNat : Nat) : Int) = by_ b i := by
  unfold by_
  have h' : i < b.data.toList.length := by simpa using h
  rw [List.getD_eq_getElem?_getD, List.getElem?_eq_getElem h']
  simp
  rfl
theorem ByAt.reads {w : World} {g c n i : Nat} {a b : ByteArray} (H : ByAt w g c n i a b) (hn : n = a.size) (hi : i ≤ n) (hib : i ≤ b.size) (hm : n ≤ 9223372036854775807) : ReadsInt w .u8 (some ⟨g, 0, none⟩) n (lieL a b i) := by
  have hb : (bytesOf b).length = b.size := bytesOf_length b
  have ha : (bytesOf a).length = a.size := bytesOf_length a
  refine ⟨by unfold lieL; rw [List.length_append, List.length_take, List.length_drop]; omega, hm, fun _ => ⟨_, rfl, fun j hj => ?_⟩⟩
  rw [add_plain, H.cell hj]
  congr 2
  unfold lieL by_
  have hbd : b.data.toList.length = b.size := data_length b
  have had : a.data.toList.length = a.size := data_length a
  simp only [List.getD_eq_getElem?_getD]
  by_cases h : j < i
  · rw [if_pos h, List.getElem?_append_left (by rw [List.length_take]; omega), List.getElem?_take_of_lt h]
    have h' : j < b.data.toList.length := by omega
    unfold bytesOf
    rw [List.getElem?_map, List.getElem?_eq_getElem h']
    rfl
  · rw [if_neg h, List.getElem?_append_right (by rw [List.length_take]; omega), List.getElem?_drop, List.length_take, hb, Nat.min_eq_left hib, Nat.add_sub_cancel' (by omega : i ≤ j)]
    have h' : j < a.data.toList.length := by omega
    unfold bytesOf
    rw [List.getElem?_map, List.getElem?_eq_getElem h']
    rfl
set_option maxHeartbeats 2000000 in
set_option maxRecDepth 100000 in
theorem lie.calls (a b r : ByteArray) (w : World) (h : lie.f a b = some r) : Calls Try.prog 57 #[.string a, .string b] w fun e w' => e = .returned (.string r) ∧ Below w.heap.size w w' := by
  unfold lie.f at h
  by_cases hs : a.size ≤ 5000 ∧ b.size ≤ 4611686018427387904
  · rw [if_pos hs] at h
    have hR := Option.some.inj h
    have HR := mk0 hR
    have HB := mk0 (Below.refl w.heap.size w)
    obtain ⟨hs1, hs2⟩ := hs
    have kb := fun W => print_bytes (P := Try.prog) 9 66 5 Try.underlying9 Try.underlying66 Try.underlying5 a W
    clear h hR
    go_enter Try.func57, Try.ntmps57
    go_wp2
    have hBY : ByAt (Lib.bytesWorld w 5 a) w.heap.size (Lib.bytesCells w 5 a).size a.size 0 a b := ⟨_, Lib.bytesWorld_at_new w 5 a, rfl, by simp [Lib.bytesCells], fun j hj => by
      have := Lib.bytesWorld_cell w 5 a j hj
      unfold World.cell? at this
      rw [Lib.bytesWorld_at_new] at this
      rw [if_neg (Nat.not_lt_zero j)]
      exact this⟩
    have BY := mk0 hBY
    replace HB := mk0 (bytes_below HB.out (Nat.le_refl _) 5 a)
    clear hBY kb
    generalize (Lib.bytesCells w 5 a).size = C at BY
    generalize Lib.bytesWorld w 5 a = W at BY HB ⊢
    go_loopw [6] (fun v6 wr => ∃ i : Nat, v6 = .int .i64 i ∧ i ≤ a.size ∧ i ≤ b.size ∧ Aside0 (Below w.heap.size w wr) ∧ Aside0 (ByAt wr w.heap.size C a.size i a b)) (fun v _ => a.size - (intOf v).toNat)
    case atStart => exact ⟨0, rfl, uW, uW, HB, BY⟩
    case round =>
      clear BY HB
      obtain ⟨i, rfl, hin, hib, HB, BY⟩ := hrel
      by_cases hlt : i < a.size
      · have q1 : decide ((i : Int) < (a.size : Int)) = true := decide_eq_true uW
        by_cases hlt2 : i < b.size
        · have q2 : decide ((i : Int) < (b.size : Int)) = true := decide_eq_true uW
          have x2 := BY.out.frozen hlt
          have x1 := BY.out.cell hlt
          have e1 : wrap64 ((i : Int) + 1) = (i : Int) + 1 := wrap64_in uW uW
          go_wp2
          rw [by_get b i hlt2]
          exact ⟨⟨i + 1, uV, uW, uW, ⟨below_set HB.out (Nat.le_refl _)⟩, ⟨BY.out.put hlt⟩⟩, by simp only [intOf]; omega⟩
        · have q2 : decide ((i : Int) < (b.size : Int)) = false := decide_eq_false uW
          obtain rfl : b.size = i := by omega
          have hcv := string_of_reads (P := Try.prog) (c := grownCap w a.size 0 5) Try.underlying66 Try.underlying5 Try.underlying9 (BY.out.reads rfl hin (Nat.le_refl _) uW)
          rw [show b.size = min a.size b.size by omega] at hcv
          rw [HR.out] at hcv
          go_wp2
          go_ret
          exact ⟨rfl, HB.out⟩
      · obtain rfl : a.size = i := by omega
        have q1 : decide ((a.size : Int) < (a.size : Int)) = false := decide_eq_false uW
        have hcv := string_of_reads (P := Try.prog) (c := grownCap w a.size 0 5) Try.underlying66 Try.underlying5 Try.underlying9 (BY.out.reads rfl (Nat.le_refl _) hib uW)
        rw [show lieL a b a.size = lieL a b (min a.size b.size) by rw [show min a.size b.size = a.size by omega], HR.out] at hcv
        go_wp2
        go_ret
        exact ⟨rfl, HB.out⟩
  · rw [if_neg hs] at h
    cases h
end Go.Proofs.Ytaahnicjjpddjaa.Pr
end
section
namespace Go.Proofs.Ytaahnicjjpddjaa.GDecodeFirst
open Go.Proofs.Ytaahnicjjpddjaa.Fn
open Go.Proofs.Ytaahnicjjpddjaa
open Go.RowKit Go.Proofs.YtaahnicjjpddjaaW.PrintWords Go.Proofs.YtaahnicjjpddjaaW.PrintLast
set_option linter.unusedVariables false
set_option linter.unusedSimpArgs false
noncomputable def errW : Option Int → Value
 | none => .nilIface
 | some c => .iface 0 (.int .i64 c)
theorem errW_none : errW none = .nilIface := rfl
theorem errW_some (c : Int) : errW (some c) = .iface 0 (.int .i64 c) := rfl
theorem info4 : (Try.prog.info? 4).map (fun i => (i.zero, i.size, i.bytes)) = some (some (.bool false), 1, 1) := by kernel_rfl
theorem info9 : (Try.prog.info? 9).map (fun i => (i.zero, i.size, i.bytes)) = some (some (.string ⟨#[]⟩), 1, 16) := by kernel_rfl
end Go.Proofs.Ytaahnicjjpddjaa.GDecodeFirst
end
