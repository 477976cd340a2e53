/- The head of the cut, split word by word from the front: the facts on the cut's head without the long way round. Plain; no condition. The row of ossuarylaw8.RebuildMends: for every input the law returns true, and each argument reads behind the call as it read before. No condition. -/
import Derived.Test.YtaahnicjjpddjaaRows
import Derived.Test.YtaahnicjjpddjaaKRebuildMendsOpen
section
namespace Go.Proofs.Ytaahnicjjpddjaa.Head
def fast : List Char → List Char → List (List Char)
  | acc, [] => [acc.reverse]
  | acc, c :: r => if c = ' ' then acc.reverse :: fast [] r else fast (c :: acc) r
theorem words_some (l : List Char) : ∃ w ws, wordsSigns l = w :: ws := by
  induction l with
  | nil => exact ⟨_, _, rfl⟩
  | cons c r ih =>
    obtain ⟨w, ws, h⟩ := ih
    by_cases e : c = ' '
    · subst e; exact ⟨_, _, rfl⟩
    · refine ⟨c :: w, ws, ?_⟩
      rw [wordsSigns, h]
      exact e
theorem fast_words (l : List Char) : ∀ acc w ws, wordsSigns l = w :: ws → fast acc l = (acc.reverse ++ w) :: ws := by
  induction l with
  | nil => intro acc w ws h; rw [wordsSigns] at h; cases h; rw [fast, List.append_nil]
  | cons c r ih =>
    intro acc w ws h
    obtain ⟨w', ws', h'⟩ := words_some r
    by_cases e : c = ' '
    · subst e
      rw [wordsSigns] at h
      cases h
      rw [fast, if_pos rfl, ih [] w' ws' h', h', List.append_nil]; rfl
    · have h2 : wordsSigns (c :: r) = (c :: w') :: ws' := by
        rw [wordsSigns, h']
        exact e
      rw [h2] at h
      cases h
      rw [fast, if_neg e, ih (c :: acc) w' ws h', List.reverse_cons, List.append_assoc]; rfl
theorem words_fast (l : List Char) : wordsSigns l = fast [] l := by
  obtain ⟨w, ws, h⟩ := words_some l
  rw [fast_words l [] w ws h, h]; rfl
def signs : List Char := ['h', 'a', 'r', 'n', 'e', 's', 's', ' ', 'b', '9', 'a', '2', '4', 'b', '3', 'f', '1', '7', 'f', '3', '7', '0', 'b', '7', '6', '1', '3', '3', 'b', 'd', 'c', 'e', '8', '5', 'c', 'b', 'd', 'f', 'e', '7', 'f', '1', 'e', 'd', 'b', 'c', '3', 'a', 'a', 'f', '9', '3', 'e', 'd', 'd', '2', 'd', '5', '9', 'a', '0', '9', '1', '0', '2', '1', '7', '6', 'd', '2', 'f', 'f', ' ', 'c', 'u', 't', ' ', 'a', 't', ' ', 'o', 's', 's', 'u', 'a', 'r', 'y', '/', 'o', 's', 's', 'u', 'a', 'r', 'y', 'l', 'a', 'w', '3', '.', 'M', 'a', 't', 'r', 'i', 'c', 'e', 's', ' ', 'o', 's', 's', 'u', 'a', 'r', 'y', '/', 'o', 's', 's', 'u', 'a', 'r', 'y', 'l', 'a', 'w', '3', '.', 'M', 'a', 't', 'r', 'i', 'x', 'T', 'h', 'r', 'e', 'e', ' ', 'o', 's', 's', 'u', 'a', 'r', 'y', '/', 'o', 's', 's', 'u', 'a', 'r', 'y', 'l', 'a', 'w', '3', '.', 'M', 'a', 't', 'r', 'i', 'x', 'F', 'o', 'r', 'm', 's', ' ', 'o', 's', 's', 'u', 'a', 'r', 'y', '/', 'o', 's', 's', 'u', 'a', 'r', 'y', 'l', 'a', 'w', '3', '.', 'M', 'a', 't', 'r', 'i', 'x', 'P', 'i', 'c', 'k', 's', ' ', 'o', 's', 's', 'u', 'a', 'r', 'y', '/', 'o', 's', 's', 'u', 'a', 'r', 'y', 'l', 'a', 'w', '4', '.', 'I', 'n', 'v', 'e', 'r', 't', 's', ' ', 'o', 's', 's', 'u', 'a', 'r', 'y', '/', 'o', 's', 's', 'u', 'a', 'r', 'y', 'l', 'a', 'w', '4', '.', 'I', 'n', 'v', 'e', 'r', 't', 'B', 'a', 'c', 'k', ' ', 'o', 's', 's', 'u', 'a', 'r', 'y', '/', 'o', 's', 's', 'u', 'a', 'r', 'y', 'l', 'a', 'w', '4', '.', 'I', 'n', 'v', 'e', 'r', 't', 'D', 'i', 'a', 'g', 'o', 'n', 'a', 'l', ' ', 'o', 's', 's', 'u', 'a', 'r', 'y', '/', 'o', 's', 's', 'u', 'a', 'r', 'y', 'l', 'a', 'w', '4', '.', 'I', 'n', 'v', 'e', 'r', 't', 'P', 'r', 'o', 'd', 'u', 'c', 't', ' ', 'o', 's', 's', 'u', 'a', 'r', 'y', '/', 'o', 's', 's', 'u', 'a', 'r', 'y', 'l', 'a', 'w', '5', '.', 'G', 'e', 'n', 's', ' ', 'o', 's', 's', 'u', 'a', 'r', 'y', '/', 'o', 's', 's', 'u', 'a', 'r', 'y', 'l', 'a', 'w', '5', '.', 'G', 'e', 'n', 'T', 'a', 'b', 'l', 'e', ' ', 'o', 's', 's', 'u', 'a', 'r', 'y', '/', 'o', 's', 's', 'u', 'a', 'r', 'y', 'l', 'a', 'w', '5', '.', 'G', 'e', 'n', 'F', 'o', 'r', 'm', 's', ' ', 'o', 's', 's', 'u', 'a', 'r', 'y', '/', 'o', 's', 's', 'u', 'a', 'r', 'y', 'l', 'a', 'w', '5', '.', 'G', 'e', 'n', 'A', 'n', 'y', ' ', 'o', 's', 's', 'u', 'a', 'r', 'y', '/', 'o', 's', 's', 'u', 'a', 'r', 'y', 'l', 'a', 'w', '5', '.', 'G', 'e', 'n', 'M', 'o', 'r', 'e', ' ', 'o', 's', 's', 'u', 'a', 'r', 'y', '/', 'o', 's', 's', 'u', 'a', 'r', 'y', 'l', 'a', 'w', '6', '.', 'E', 'n', 'c', 'o', 'd', 'e', 's', ' ', 'o', 's', 's', 'u', 'a', 'r', 'y', '/', 'o', 's', 's', 'u', 'a', 'r', 'y', 'l', 'a', 'w', '6', '.', 'E', 'n', 'c', 'o', 'd', 'e', 'F', 'o', 'r', 'm', 's', ' ', 'o', 's', 's', 'u', 'a', 'r', 'y', '/', 'o', 's', 's', 'u', 'a', 'r', 'y', 'l', 'a', 'w', '7', '.', 'D', 'e', 'c', 'o', 'd', 'e', 's', ' ', 'o', 's', 's', 'u', 'a', 'r', 'y', '/', 'o', 's', 's', 'u', 'a', 'r', 'y', 'l', 'a', 'w', '7', '.', 'D', 'e', 'c', 'o', 'd', 'e', 'F', 'o', 'r', 'm', 's', ' ', 'o', 's', 's', 'u', 'a', 'r', 'y', '/', 'o', 's', 's', 'u', 'a', 'r', 'y', 'l', 'a', 'w', '7', '.', 'D', 'e', 'c', 'o', 'd', 'e', 'F', 'i', 'r', 's', 't', ' ', 'o', 's', 's', 'u', 'a', 'r', 'y', '/', 'o', 's', 's', 'u', 'a', 'r', 'y', 'l', 'a', 'w', '7', '.', 'D', 'e', 'c', 'o', 'd', 'e', 'S', 'u', 'm', 's', ' ', 'o', 's', 's', 'u', 'a', 'r', 'y', '/', 'o', 's', 's', 'u', 'a', 'r', 'y', 'l', 'a', 'w', '8', '.', 'R', 'e', 'b', 'u', 'i', 'l', 'd', 's', ' ', 'o', 's', 's', 'u', 'a', 'r', 'y', '/', 'o', 's', 's', 'u', 'a', 'r', 'y', 'l', 'a', 'w', '8', '.', 'R', 'e', 'b', 'u', 'i', 'l', 'd', 'A', 'l', 'l', ' ', 'o', 's', 's', 'u', 'a', 'r', 'y', '/', 'o', 's', 's', 'u', 'a', 'r', 'y', 'l', 'a', 'w', '8', '.', 'R', 'e', 'b', 'u', 'i', 'l', 'd', 'M', 'e', 'n', 'd', 's', ' ', 'o', 's', 's', 'u', 'a', 'r', 'y', '/', 'o', 's', 's', 'u', 'a', 'r', 'y', 'l', 'a', 'w', '8', '.', 'R', 'e', 'b', 'u', 'i', 'l', 'd', 'F', 'o', 'r', 'm', 's', ' ', 'o', 's', 's', 'u', 'a', 'r', 'y', '/', 'o', 's', 's', 'u', 'a', 'r', 'y', 'l', 'a', 'w', '8', '.', 'R', 'e', 'b', 'u', 'i', 'l', 'd', 'C', 'o', 'd', 'e']
theorem order : Try.prog.initOrder = String.ofList signs := by kernel_rfl
theorem order_list : Try.prog.initOrder.toList = signs := by rw [order, String.toList_ofList]
def words : List (List Char) := [['c', 'u', 't'], ['a', 't'], ['o', 's', 's', 'u', 'a', 'r', 'y', '/', 'o', 's', 's', 'u', 'a', 'r', 'y', 'l', 'a', 'w', '3', '.', 'M', 'a', 't', 'r', 'i', 'c', 'e', 's'], ['o', 's', 's', 'u', 'a', 'r', 'y', '/', 'o', 's', 's', 'u', 'a', 'r', 'y', 'l', 'a', 'w', '3', '.', 'M', 'a', 't', 'r', 'i', 'x', 'T', 'h', 'r', 'e', 'e'], ['o', 's', 's', 'u', 'a', 'r', 'y', '/', 'o', 's', 's', 'u', 'a', 'r', 'y', 'l', 'a', 'w', '3', '.', 'M', 'a', 't', 'r', 'i', 'x', 'F', 'o', 'r', 'm', 's'], ['o', 's', 's', 'u', 'a', 'r', 'y', '/', 'o', 's', 's', 'u', 'a', 'r', 'y', 'l', 'a', 'w', '3', '.', 'M', 'a', 't', 'r', 'i', 'x', 'P', 'i', 'c', 'k', 's'], ['o', 's', 's', 'u', 'a', 'r', 'y', '/', 'o', 's', 's', 'u', 'a', 'r', 'y', 'l', 'a', 'w', '4', '.', 'I', 'n', 'v', 'e', 'r', 't', 's'], ['o', 's', 's', 'u', 'a', 'r', 'y', '/', 'o', 's', 's', 'u', 'a', 'r', 'y', 'l', 'a', 'w', '4', '.', 'I', 'n', 'v', 'e', 'r', 't', 'B', 'a', 'c', 'k'], ['o', 's', 's', 'u', 'a', 'r', 'y', '/', 'o', 's', 's', 'u', 'a', 'r', 'y', 'l', 'a', 'w', '4', '.', 'I', 'n', 'v', 'e', 'r', 't', 'D', 'i', 'a', 'g', 'o', 'n', 'a', 'l'], ['o', 's', 's', 'u', 'a', 'r', 'y', '/', 'o', 's', 's', 'u', 'a', 'r', 'y', 'l', 'a', 'w', '4', '.', 'I', 'n', 'v', 'e', 'r', 't', 'P', 'r', 'o', 'd', 'u', 'c', 't'], ['o', 's', 's', 'u', 'a', 'r', 'y', '/', 'o', 's', 's', 'u', 'a', 'r', 'y', 'l', 'a', 'w', '5', '.', 'G', 'e', 'n', 's'], ['o', 's', 's', 'u', 'a', 'r', 'y', '/', 'o', 's', 's', 'u', 'a', 'r', 'y', 'l', 'a', 'w', '5', '.', 'G', 'e', 'n', 'T', 'a', 'b', 'l', 'e'], ['o', 's', 's', 'u', 'a', 'r', 'y', '/', 'o', 's', 's', 'u', 'a', 'r', 'y', 'l', 'a', 'w', '5', '.', 'G', 'e', 'n', 'F', 'o', 'r', 'm', 's'], ['o', 's', 's', 'u', 'a', 'r', 'y', '/', 'o', 's', 's', 'u', 'a', 'r', 'y', 'l', 'a', 'w', '5', '.', 'G', 'e', 'n', 'A', 'n', 'y'], ['o', 's', 's', 'u', 'a', 'r', 'y', '/', 'o', 's', 's', 'u', 'a', 'r', 'y', 'l', 'a', 'w', '5', '.', 'G', 'e', 'n', 'M', 'o', 'r', 'e'], ['o', 's', 's', 'u', 'a', 'r', 'y', '/', 'o', 's', 's', 'u', 'a', 'r', 'y', 'l', 'a', 'w', '6', '.', 'E', 'n', 'c', 'o', 'd', 'e', 's'], ['o', 's', 's', 'u', 'a', 'r', 'y', '/', 'o', 's', 's', 'u', 'a', 'r', 'y', 'l', 'a', 'w', '6', '.', 'E', 'n', 'c', 'o', 'd', 'e', 'F', 'o', 'r', 'm', 's'], ['o', 's', 's', 'u', 'a', 'r', 'y', '/', 'o', 's', 's', 'u', 'a', 'r', 'y', 'l', 'a', 'w', '7', '.', 'D', 'e', 'c', 'o', 'd', 'e', 's'], ['o', 's', 's', 'u', 'a', 'r', 'y', '/', 'o', 's', 's', 'u', 'a', 'r', 'y', 'l', 'a', 'w', '7', '.', 'D', 'e', 'c', 'o', 'd', 'e', 'F', 'o', 'r', 'm', 's'], ['o', 's', 's', 'u', 'a', 'r', 'y', '/', 'o', 's', 's', 'u', 'a', 'r', 'y', 'l', 'a', 'w', '7', '.', 'D', 'e', 'c', 'o', 'd', 'e', 'F', 'i', 'r', 's', 't'], ['o', 's', 's', 'u', 'a', 'r', 'y', '/', 'o', 's', 's', 'u', 'a', 'r', 'y', 'l', 'a', 'w', '7', '.', 'D', 'e', 'c', 'o', 'd', 'e', 'S', 'u', 'm', 's'], ['o', 's', 's', 'u', 'a', 'r', 'y', '/', 'o', 's', 's', 'u', 'a', 'r', 'y', 'l', 'a', 'w', '8', '.', 'R', 'e', 'b', 'u', 'i', 'l', 'd', 's'], ['o', 's', 's', 'u', 'a', 'r', 'y', '/', 'o', 's', 's', 'u', 'a', 'r', 'y', 'l', 'a', 'w', '8', '.', 'R', 'e', 'b', 'u', 'i', 'l', 'd', 'A', 'l', 'l'], ['o', 's', 's', 'u', 'a', 'r', 'y', '/', 'o', 's', 's', 'u', 'a', 'r', 'y', 'l', 'a', 'w', '8', '.', 'R', 'e', 'b', 'u', 'i', 'l', 'd', 'M', 'e', 'n', 'd', 's'], ['o', 's', 's', 'u', 'a', 'r', 'y', '/', 'o', 's', 's', 'u', 'a', 'r', 'y', 'l', 'a', 'w', '8', '.', 'R', 'e', 'b', 'u', 'i', 'l', 'd', 'F', 'o', 'r', 'm', 's'], ['o', 's', 's', 'u', 'a', 'r', 'y', '/', 'o', 's', 's', 'u', 'a', 'r', 'y', 'l', 'a', 'w', '8', '.', 'R', 'e', 'b', 'u', 'i', 'l', 'd', 'C', 'o', 'd', 'e']]
theorem signs_words : fast [] signs = ['h', 'a', 'r', 'n', 'e', 's', 's'] :: ['b', '9', 'a', '2', '4', 'b', '3', 'f', '1', '7', 'f', '3', '7', '0', 'b', '7', '6', '1', '3', '3', 'b', 'd', 'c', 'e', '8', '5', 'c', 'b', 'd', 'f', 'e', '7', 'f', '1', 'e', 'd', 'b', 'c', '3', 'a', 'a', 'f', '9', '3', 'e', 'd', 'd', '2', 'd', '5', '9', 'a', '0', '9', '1', '0', '2', '1', '7', '6', 'd', '2', 'f', 'f'] :: words := by kernel_rfl
theorem order_words : behindMainWord (wordsSigns Try.prog.initOrder.toList) = words := by
  rw [order_list, words_fast, signs_words]
  kernel_rfl
theorem cut_list : "cut".toList = ['c', 'u', 't'] := by simp
theorem make_of (P : Program) (r : List (List Char)) (h : behindMainWord (wordsSigns P.initOrder.toList) = ['c', 'u', 't'] :: r) : P.make = some .cut := by
  unfold Program.make
  rw [h]
  simp
theorem mayEnter_of (P : Program) (r : List (List Char)) (h : behindMainWord (wordsSigns P.initOrder.toList) = ['c', 'u', 't'] :: r) (h1 : P.laysLater = false) (h2 : P.bearsReflect = false) (h3 : P.doorFits [] = true) (h4 : stripLifts liftWords (['c', 'u', 't'] :: r) = ([], ['c', 'u', 't'] :: r)) : P.mayEnter = true := by
  unfold Program.mayEnter
  rw [h]
  simp only []
  rw [h4, h1, h2, h3]
  simp
theorem headLifts_of (P : Program) (r : List (List Char)) (h : behindMainWord (wordsSigns P.initOrder.toList) = ['c', 'u', 't'] :: r) (h4 : stripLifts liftWords (['c', 'u', 't'] :: r) = ([], ['c', 'u', 't'] :: r)) : P.headLifts = [] := by
  unfold Program.headLifts
  rw [h, h4]
  simp
theorem lifts_of (P : Program) (r : List (List Char)) (h : behindMainWord (wordsSigns P.initOrder.toList) = ['c', 'u', 't'] :: r) (h4 : stripLifts liftWords (['c', 'u', 't'] :: r) = ([], ['c', 'u', 't'] :: r)) : P.liftsFinal = false := by
  unfold Program.liftsFinal
  rw [headLifts_of P r h h4, h]
  simp
theorem order_tail : behindMainWord (wordsSigns Try.prog.initOrder.toList) = ['c', 'u', 't'] :: words.tail := order_words
theorem strip_words : stripLifts liftWords (['c', 'u', 't'] :: words.tail) = ([], ['c', 'u', 't'] :: words.tail) := by kernel_rfl
theorem make : Try.prog.make = some .cut := make_of _ _ order_tail
theorem mayEnter : Try.prog.mayEnter = true := mayEnter_of _ _ order_tail (by kernel_rfl) (by kernel_rfl) (by kernel_rfl) strip_words
theorem lifts : Try.prog.liftsFinal = false := lifts_of _ _ order_tail strip_words
end Go.Proofs.Ytaahnicjjpddjaa.Head
end
section
namespace Go.Proofs.Ytaahnicjjpddjaa.rebuildMends
open Go.ChangeShapes Go.WideShapes Go.ChangeAt Go.RowKit Go.Joins Go.Proofs.Ytaahnicjjpddjaa.Opn
open Go.ChangeMaps (open_string shut_string)
open Go.Proofs.YtaahnicjjpddjaaW.PrintWords (Kd)
set_option linter.unusedVariables false
theorem own : ownKnob Try.prog.godebug = none := by kernel_rfl
theorem laidOut : laidOutB Try.prog = true := by kernel_rfl
set_option maxRecDepth 100000 in
theorem lifted (os : Os) (started : os.Started) (H : Type) (enc : TypeId × Value → H) :
    ReturnsInHanded {} Try.checked os 24 .any (Rows.rebuildMendsSpec.pre6 enc Try.prog Try.f24 Rows.rebuildMendsRow.domain false) (Rows.rebuildMendsSpec.post enc Try.prog Try.f24 false true false false) := by
  refine returnsInHanded_of_change_sized (C := Try.checked) own started uT Try.func24
    (ChangeSpec.witness6 (enc := enc) (C := Try.checked) false ⟨#[], #[.int .i64 0, .string ByteArray.empty, .int .i64 0, .int .i64 0], []⟩ 8 uT uT uT uT) ?_
  intro W base args ds gs before hval0 hW hcnd hsz0 _
  have hsz : (DataW.weightsEach Try.prog (Try.f24.params.toList ++ Rows.rebuildMendsSpec.plain.varTypes Try.prog) (ds ++ gs)).all (· ≤ reachBytes) = true := hsz0
  have hval : ∀ (j : Nat) t v, Try.f24.params[j]? = some t → args[j]? = some v → Value.okWide Try.prog W .any base t v := hval0
  have hW' := hW
  obtain ⟨p, q, hA0, hV, rfl, hfz, hnd⟩ := hW
  have hA : DataW.TrodAll enc Try.prog W 0 (fun _ => true) true Try.f24.params.toList args.toList ds p := hA0
  rw [Try.params24] at hA hval hsz
  obtain ⟨v0, vs0, d0, ds0, p0, q0, hargs, rfl, rfl, h0, r0⟩ := trodAll_cons hA
  obtain ⟨v1, vs1, d1, ds1, p1, q1, rfl, rfl, rfl, h1, r1⟩ := trodAll_cons r0
  obtain ⟨v2, vs2, d2, ds2, p2, q2, rfl, rfl, rfl, h2, r2⟩ := trodAll_cons r1
  obtain ⟨v3, vs3, d3, ds3, p3, q3, rfl, rfl, rfl, h3, r3⟩ := trodAll_cons r2
  obtain ⟨rfl, rfl, rfl⟩ := trodAll_nil r3
  obtain rfl : args = #[v0, v1, v2, v3] := by cases args; simp_all
  obtain ⟨rfl, rfl⟩ := trodVars_none hV
  obtain ⟨a0, rfl, rfl, rfl, w0⟩ := open_int Try.underlying3 (hval 0 3 v0 rfl rfl) h0
  have k1 := h1
  have lt1 : ∀ x ∈ p1, x.block < W.heap.size := by obtain ⟨m, hm⟩ := k1; exact DataW.trod_lt m _ _ _ hm
  obtain ⟨a1, rfl, rfl, rfl, y1⟩ := open_string Try.underlying9 (hval 1 9 v1 rfl rfl) h1
  have w1 : a1.size ≤ 140737488351232 := by
    have z := sized_string hsz (j := 1) (t := 9) rfl rfl
    rw [Array.length_toList] at z
    exact z
  obtain ⟨a2, rfl, rfl, rfl, w2⟩ := open_int Try.underlying3 (hval 2 3 v2 rfl rfl) h2
  obtain ⟨a3, rfl, rfl, rfl, w3⟩ := open_int Try.underlying3 (hval 3 3 v3 rfl rfl) h3
  clear hA0 hval0 hsz0 hsz
  obtain ⟨k, hk⟩ := Pure.RebuildMends a0 w0 a1 w1 a2 w2 a3 w3
  refine (GRebuildMends.ossuarylaw8_RebuildMends.calls k a0 a1 a2 a3 true W  hk).mono fun e W' ⟨he, bel⟩ => ?_
  subst he
  exact ⟨_, rfl, _, _, _, [], _, [], hW', trodAll_mk1 (shut_bool Try.underlying4 _), (trodAll_cons_mk (shut_int Try.underlying3 w0) (trodAll_cons_mk (shut_string Try.underlying9 y1) (trodAll_cons_mk (shut_int Try.underlying3 w2) (trodAll_cons_mk (shut_int Try.underlying3 w3) trodAll_mk0)))), rfl, bel.frame _, fun h => by cases h⟩
theorem closed : joinedFacts Try.prog 24 Try.f24 Rows.rebuildMendsSpec Rows.rebuildMendsRow = true := by
  unfold joinedFacts
  rw [Head.make, Head.mayEnter, Head.lifts]
  kernel_rfl
theorem over : Rows.rebuildMendsRow.holds Try.pinned (OpenSpec.ofChange Rows.rebuildMendsSpec) :=
  OpenClaim.holds_of_wide 24 Try.f24 rfl rfl rfl rfl rfl rfl rfl ⟨rfl, rfl, rfl, rfl, rfl⟩ rfl rfl rfl rfl rfl uT Try.func24 closed
    (of_decide_eq_true uT) (by unfold Func.isWrapper; first | (rw [if_pos uR]; kernel_rfl) | (rw [if_neg uR]; exact ⟨rfl, rfl⟩))
    (fun os started H enc _ => lifted os started H enc)
theorem proved : Rows.RebuildMendsSaid := over
#print axioms proved
end Go.Proofs.Ytaahnicjjpddjaa.rebuildMends
namespace Go.Proofs.Ytaahnicjjpddjaa
/-- The row, under a short name, for the claim. -/
theorem rebuildMends_holds : Rows.RebuildMendsSaid := rebuildMends.proved
end Go.Proofs.Ytaahnicjjpddjaa
end
