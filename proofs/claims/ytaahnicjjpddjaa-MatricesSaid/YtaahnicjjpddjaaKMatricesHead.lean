/- The head of the cut, split word by word from the front: the facts on the cut's head without the long way round. Plain; no condition. -/
import Derived.Test.YtaahnicjjpddjaaRows
import Derived.ProofKit
namespace Go.Proofs.Ytaahnicjjpddjaa.Head
def fast : List Char → List Char → List (List Char)
  | acc, [] => [acc.reverse]
  | acc, c :: r => if c = ' ' then acc.reverse :: fast [] r else fast (c :: acc) r
theorem words_some (l : List Char) : ∃ w ws, wordsSigns l = w :: ws := by
  induction l with
  | nil => exact ⟨_, _, rfl⟩
  | cons c r ih =>
    obtain ⟨w, ws, h⟩ := ih
    by_cases e : c = ' '
    · subst e; exact ⟨_, _, rfl⟩
    · refine ⟨c :: w, ws, ?_⟩
      rw [wordsSigns, h]
      exact e
theorem fast_words (l : List Char) : ∀ acc w ws, wordsSigns l = w :: ws → fast acc l = (acc.reverse ++ w) :: ws := by
  induction l with
  | nil => intro acc w ws h; rw [wordsSigns] at h; cases h; rw [fast, List.append_nil]
  | cons c r ih =>
    intro acc w ws h
    obtain ⟨w', ws', h'⟩ := words_some r
    by_cases e : c = ' '
    · subst e
      rw [wordsSigns] at h
      cases h
      rw [fast, if_pos rfl, ih [] w' ws' h', h', List.append_nil]; rfl
    · have h2 : wordsSigns (c :: r) = (c :: w') :: ws' := by
        rw [wordsSigns, h']
        exact e
      rw [h2] at h
      cases h
      rw [fast, if_neg e, ih (c :: acc) w' ws h', List.reverse_cons, List.append_assoc]; rfl
theorem words_fast (l : List Char) : wordsSigns l = fast [] l := by
  obtain ⟨w, ws, h⟩ := words_some l
  rw [fast_words l [] w ws h, h]; rfl
def signs : List Char := ['h', 'a', 'r', 'n', 'e', 's', 's', ' ', 'b', '9', 'a', '2', '4', 'b', '3', 'f', '1', '7', 'f', '3', '7', '0', 'b', '7', '6', '1', '3', '3', 'b', 'd', 'c', 'e', '8', '5', 'c', 'b', 'd', 'f', 'e', '7', 'f', '1', 'e', 'd', 'b', 'c', '3', 'a', 'a', 'f', '9', '3', 'e', 'd', 'd', '2', 'd', '5', '9', 'a', '0', '9', '1', '0', '2', '1', '7', '6', 'd', '2', 'f', 'f', ' ', 'c', 'u', 't', ' ', 'a', 't', ' ', 'o', 's', 's', 'u', 'a', 'r', 'y', '/', 'o', 's', 's', 'u', 'a', 'r', 'y', 'l', 'a', 'w', '3', '.', 'M', 'a', 't', 'r', 'i', 'c', 'e', 's', ' ', 'o', 's', 's', 'u', 'a', 'r', 'y', '/', 'o', 's', 's', 'u', 'a', 'r', 'y', 'l', 'a', 'w', '3', '.', 'M', 'a', 't', 'r', 'i', 'x', 'T', 'h', 'r', 'e', 'e', ' ', 'o', 's', 's', 'u', 'a', 'r', 'y', '/', 'o', 's', 's', 'u', 'a', 'r', 'y', 'l', 'a', 'w', '3', '.', 'M', 'a', 't', 'r', 'i', 'x', 'F', 'o', 'r', 'm', 's', ' ', 'o', 's', 's', 'u', 'a', 'r', 'y', '/', 'o', 's', 's', 'u', 'a', 'r', 'y', 'l', 'a', 'w', '3', '.', 'M', 'a', 't', 'r', 'i', 'x', 'P', 'i', 'c', 'k', 's', ' ', 'o', 's', 's', 'u', 'a', 'r', 'y', '/', 'o', 's', 's', 'u', 'a', 'r', 'y', 'l', 'a', 'w', '4', '.', 'I', 'n', 'v', 'e', 'r', 't', 's', ' ', 'o', 's', 's', 'u', 'a', 'r', 'y', '/', 'o', 's', 's', 'u', 'a', 'r', 'y', 'l', 'a', 'w', '4', '.', 'I', 'n', 'v', 'e', 'r', 't', 'B', 'a', 'c', 'k', ' ', 'o', 's', 's', 'u', 'a', 'r', 'y', '/', 'o', 's', 's', 'u', 'a', 'r', 'y', 'l', 'a', 'w', '4', '.', 'I', 'n', 'v', 'e', 'r', 't', 'D', 'i', 'a', 'g', 'o', 'n', 'a', 'l', ' ', 'o', 's', 's', 'u', 'a', 'r', 'y', '/', 'o', 's', 's', 'u', 'a', 'r', 'y', 'l', 'a', 'w', '4', '.', 'I', 'n', 'v', 'e', 'r', 't', 'P', 'r', 'o', 'd', 'u', 'c', 't', ' ', 'o', 's', 's', 'u', 'a', 'r', 'y', '/', 'o', 's', 's', 'u', 'a', 'r', 'y', 'l', 'a', 'w', '5', '.', 'G', 'e', 'n', 's', ' ', 'o', 's', 's', 'u', 'a', 'r', 'y', '/', 'o', 's', 's', 'u', 'a', 'r', 'y', 'l', 'a', 'w', '5', '.', 'G', 'e', 'n', 'T', 'a', 'b', 'l', 'e', ' ', 'o', 's', 's', 'u', 'a', 'r', 'y', '/', 'o', 's', 's', 'u', 'a', 'r', 'y', 'l', 'a', 'w', '5', '.', 'G', 'e', 'n', 'F', 'o', 'r', 'm', 's', ' ', 'o', 's', 's', 'u', 'a', 'r', 'y', '/', 'o', 's', 's', 'u', 'a', 'r', 'y', 'l', 'a', 'w', '5', '.', 'G', 'e', 'n', 'A', 'n', 'y', ' ', 'o', 's', 's', 'u', 'a', 'r', 'y', '/', 'o', 's', 's', 'u', 'a', 'r', 'y', 'l', 'a', 'w', '5', '.', 'G', 'e', 'n', 'M', 'o', 'r', 'e', ' ', 'o', 's', 's', 'u', 'a', 'r', 'y', '/', 'o', 's', 's', 'u', 'a', 'r', 'y', 'l', 'a', 'w', '6', '.', 'E', 'n', 'c', 'o', 'd', 'e', 's', ' ', 'o', 's', 's', 'u', 'a', 'r', 'y', '/', 'o', 's', 's', 'u', 'a', 'r', 'y', 'l', 'a', 'w', '6', '.', 'E', 'n', 'c', 'o', 'd', 'e', 'F', 'o', 'r', 'm', 's', ' ', 'o', 's', 's', 'u', 'a', 'r', 'y', '/', 'o', 's', 's', 'u', 'a', 'r', 'y', 'l', 'a', 'w', '7', '.', 'D', 'e', 'c', 'o', 'd', 'e', 's', ' ', 'o', 's', 's', 'u', 'a', 'r', 'y', '/', 'o', 's', 's', 'u', 'a', 'r', 'y', 'l', 'a', 'w', '7', '.', 'D', 'e', 'c', 'o', 'd', 'e', 'F', 'o', 'r', 'm', 's', ' ', 'o', 's', 's', 'u', 'a', 'r', 'y', '/', 'o', 's', 's', 'u', 'a', 'r', 'y', 'l', 'a', 'w', '7', '.', 'D', 'e', 'c', 'o', 'd', 'e', 'F', 'i', 'r', 's', 't', ' ', 'o', 's', 's', 'u', 'a', 'r', 'y', '/', 'o', 's', 's', 'u', 'a', 'r', 'y', 'l', 'a', 'w', '7', '.', 'D', 'e', 'c', 'o', 'd', 'e', 'S', 'u', 'm', 's', ' ', 'o', 's', 's', 'u', 'a', 'r', 'y', '/', 'o', 's', 's', 'u', 'a', 'r', 'y', 'l', 'a', 'w', '8', '.', 'R', 'e', 'b', 'u', 'i', 'l', 'd', 's', ' ', 'o', 's', 's', 'u', 'a', 'r', 'y', '/', 'o', 's', 's', 'u', 'a', 'r', 'y', 'l', 'a', 'w', '8', '.', 'R', 'e', 'b', 'u', 'i', 'l', 'd', 'A', 'l', 'l', ' ', 'o', 's', 's', 'u', 'a', 'r', 'y', '/', 'o', 's', 's', 'u', 'a', 'r', 'y', 'l', 'a', 'w', '8', '.', 'R', 'e', 'b', 'u', 'i', 'l', 'd', 'M', 'e', 'n', 'd', 's', ' ', 'o', 's', 's', 'u', 'a', 'r', 'y', '/', 'o', 's', 's', 'u', 'a', 'r', 'y', 'l', 'a', 'w', '8', '.', 'R', 'e', 'b', 'u', 'i', 'l', 'd', 'F', 'o', 'r', 'm', 's', ' ', 'o', 's', 's', 'u', 'a', 'r', 'y', '/', 'o', 's', 's', 'u', 'a', 'r', 'y', 'l', 'a', 'w', '8', '.', 'R', 'e', 'b', 'u', 'i', 'l', 'd', 'C', 'o', 'd', 'e']
theorem order : Try.prog.initOrder = String.ofList signs := by kernel_rfl
theorem order_list : Try.prog.initOrder.toList = signs := by rw [order, String.toList_ofList]
def words : List (List Char) := [['c', 'u', 't'], ['a', 't'], ['o', 's', 's', 'u', 'a', 'r', 'y', '/', 'o', 's', 's', 'u', 'a', 'r', 'y', 'l', 'a', 'w', '3', '.', 'M', 'a', 't', 'r', 'i', 'c', 'e', 's'], ['o', 's', 's', 'u', 'a', 'r', 'y', '/', 'o', 's', 's', 'u', 'a', 'r', 'y', 'l', 'a', 'w', '3', '.', 'M', 'a', 't', 'r', 'i', 'x', 'T', 'h', 'r', 'e', 'e'], ['o', 's', 's', 'u', 'a', 'r', 'y', '/', 'o', 's', 's', 'u', 'a', 'r', 'y', 'l', 'a', 'w', '3', '.', 'M', 'a', 't', 'r', 'i', 'x', 'F', 'o', 'r', 'm', 's'], ['o', 's', 's', 'u', 'a', 'r', 'y', '/', 'o', 's', 's', 'u', 'a', 'r', 'y', 'l', 'a', 'w', '3', '.', 'M', 'a', 't', 'r', 'i', 'x', 'P', 'i', 'c', 'k', 's'], ['o', 's', 's', 'u', 'a', 'r', 'y', '/', 'o', 's', 's', 'u', 'a', 'r', 'y', 'l', 'a', 'w', '4', '.', 'I', 'n', 'v', 'e', 'r', 't', 's'], ['o', 's', 's', 'u', 'a', 'r', 'y', '/', 'o', 's', 's', 'u', 'a', 'r', 'y', 'l', 'a', 'w', '4', '.', 'I', 'n', 'v', 'e', 'r', 't', 'B', 'a', 'c', 'k'], ['o', 's', 's', 'u', 'a', 'r', 'y', '/', 'o', 's', 's', 'u', 'a', 'r', 'y', 'l', 'a', 'w', '4', '.', 'I', 'n', 'v', 'e', 'r', 't', 'D', 'i', 'a', 'g', 'o', 'n', 'a', 'l'], ['o', 's', 's', 'u', 'a', 'r', 'y', '/', 'o', 's', 's', 'u', 'a', 'r', 'y', 'l', 'a', 'w', '4', '.', 'I', 'n', 'v', 'e', 'r', 't', 'P', 'r', 'o', 'd', 'u', 'c', 't'], ['o', 's', 's', 'u', 'a', 'r', 'y', '/', 'o', 's', 's', 'u', 'a', 'r', 'y', 'l', 'a', 'w', '5', '.', 'G', 'e', 'n', 's'], ['o', 's', 's', 'u', 'a', 'r', 'y', '/', 'o', 's', 's', 'u', 'a', 'r', 'y', 'l', 'a', 'w', '5', '.', 'G', 'e', 'n', 'T', 'a', 'b', 'l', 'e'], ['o', 's', 's', 'u', 'a', 'r', 'y', '/', 'o', 's', 's', 'u', 'a', 'r', 'y', 'l', 'a', 'w', '5', '.', 'G', 'e', 'n', 'F', 'o', 'r', 'm', 's'], ['o', 's', 's', 'u', 'a', 'r', 'y', '/', 'o', 's', 's', 'u', 'a', 'r', 'y', 'l', 'a', 'w', '5', '.', 'G', 'e', 'n', 'A', 'n', 'y'], ['o', 's', 's', 'u', 'a', 'r', 'y', '/', 'o', 's', 's', 'u', 'a', 'r', 'y', 'l', 'a', 'w', '5', '.', 'G', 'e', 'n', 'M', 'o', 'r', 'e'], ['o', 's', 's', 'u', 'a', 'r', 'y', '/', 'o', 's', 's', 'u', 'a', 'r', 'y', 'l', 'a', 'w', '6', '.', 'E', 'n', 'c', 'o', 'd', 'e', 's'], ['o', 's', 's', 'u', 'a', 'r', 'y', '/', 'o', 's', 's', 'u', 'a', 'r', 'y', 'l', 'a', 'w', '6', '.', 'E', 'n', 'c', 'o', 'd', 'e', 'F', 'o', 'r', 'm', 's'], ['o', 's', 's', 'u', 'a', 'r', 'y', '/', 'o', 's', 's', 'u', 'a', 'r', 'y', 'l', 'a', 'w', '7', '.', 'D', 'e', 'c', 'o', 'd', 'e', 's'], ['o', 's', 's', 'u', 'a', 'r', 'y', '/', 'o', 's', 's', 'u', 'a', 'r', 'y', 'l', 'a', 'w', '7', '.', 'D', 'e', 'c', 'o', 'd', 'e', 'F', 'o', 'r', 'm', 's'], ['o', 's', 's', 'u', 'a', 'r', 'y', '/', 'o', 's', 's', 'u', 'a', 'r', 'y', 'l', 'a', 'w', '7', '.', 'D', 'e', 'c', 'o', 'd', 'e', 'F', 'i', 'r', 's', 't'], ['o', 's', 's', 'u', 'a', 'r', 'y', '/', 'o', 's', 's', 'u', 'a', 'r', 'y', 'l', 'a', 'w', '7', '.', 'D', 'e', 'c', 'o', 'd', 'e', 'S', 'u', 'm', 's'], ['o', 's', 's', 'u', 'a', 'r', 'y', '/', 'o', 's', 's', 'u', 'a', 'r', 'y', 'l', 'a', 'w', '8', '.', 'R', 'e', 'b', 'u', 'i', 'l', 'd', 's'], ['o', 's', 's', 'u', 'a', 'r', 'y', '/', 'o', 's', 's', 'u', 'a', 'r', 'y', 'l', 'a', 'w', '8', '.', 'R', 'e', 'b', 'u', 'i', 'l', 'd', 'A', 'l', 'l'], ['o', 's', 's', 'u', 'a', 'r', 'y', '/', 'o', 's', 's', 'u', 'a', 'r', 'y', 'l', 'a', 'w', '8', '.', 'R', 'e', 'b', 'u', 'i', 'l', 'd', 'M', 'e', 'n', 'd', 's'], ['o', 's', 's', 'u', 'a', 'r', 'y', '/', 'o', 's', 's', 'u', 'a', 'r', 'y', 'l', 'a', 'w', '8', '.', 'R', 'e', 'b', 'u', 'i', 'l', 'd', 'F', 'o', 'r', 'm', 's'], ['o', 's', 's', 'u', 'a', 'r', 'y', '/', 'o', 's', 's', 'u', 'a', 'r', 'y', 'l', 'a', 'w', '8', '.', 'R', 'e', 'b', 'u', 'i', 'l', 'd', 'C', 'o', 'd', 'e']]
theorem signs_words : fast [] signs = ['h', 'a', 'r', 'n', 'e', 's', 's'] :: ['b', '9', 'a', '2', '4', 'b', '3', 'f', '1', '7', 'f', '3', '7', '0', 'b', '7', '6', '1', '3', '3', 'b', 'd', 'c', 'e', '8', '5', 'c', 'b', 'd', 'f', 'e', '7', 'f', '1', 'e', 'd', 'b', 'c', '3', 'a', 'a', 'f', '9', '3', 'e', 'd', 'd', '2', 'd', '5', '9', 'a', '0', '9', '1', '0', '2', '1', '7', '6', 'd', '2', 'f', 'f'] :: words := by kernel_rfl
theorem order_words : behindMainWord (wordsSigns Try.prog.initOrder.toList) = words := by
  rw [order_list, words_fast, signs_words]
  kernel_rfl
theorem cut_list : "cut".toList = ['c', 'u', 't'] := by simp
theorem make_of (P : Program) (r : List (List Char)) (h : behindMainWord (wordsSigns P.initOrder.toList) = ['c', 'u', 't'] :: r) : P.make = some .cut := by
  unfold Program.make
  rw [h]
  simp
theorem mayEnter_of (P : Program) (r : List (List Char)) (h : behindMainWord (wordsSigns P.initOrder.toList) = ['c', 'u', 't'] :: r) (h1 : P.laysLater = false) (h2 : P.bearsReflect = false) (h3 : P.doorFits [] = true) (h4 : stripLifts liftWords (['c', 'u', 't'] :: r) = ([], ['c', 'u', 't'] :: r)) : P.mayEnter = true := by
  unfold Program.mayEnter
  rw [h]
  simp only []
  rw [h4, h1, h2, h3]
  simp
theorem headLifts_of (P : Program) (r : List (List Char)) (h : behindMainWord (wordsSigns P.initOrder.toList) = ['c', 'u', 't'] :: r) (h4 : stripLifts liftWords (['c', 'u', 't'] :: r) = ([], ['c', 'u', 't'] :: r)) : P.headLifts = [] := by
  unfold Program.headLifts
  rw [h, h4]
  simp
theorem lifts_of (P : Program) (r : List (List Char)) (h : behindMainWord (wordsSigns P.initOrder.toList) = ['c', 'u', 't'] :: r) (h4 : stripLifts liftWords (['c', 'u', 't'] :: r) = ([], ['c', 'u', 't'] :: r)) : P.liftsFinal = false := by
  unfold Program.liftsFinal
  rw [headLifts_of P r h h4, h]
  simp
theorem order_tail : behindMainWord (wordsSigns Try.prog.initOrder.toList) = ['c', 'u', 't'] :: words.tail := order_words
theorem strip_words : stripLifts liftWords (['c', 'u', 't'] :: words.tail) = ([], ['c', 'u', 't'] :: words.tail) := by kernel_rfl
theorem make : Try.prog.make = some .cut := make_of _ _ order_tail
theorem mayEnter : Try.prog.mayEnter = true := mayEnter_of _ _ order_tail (by kernel_rfl) (by kernel_rfl) (by kernel_rfl) strip_words
theorem lifts : Try.prog.liftsFinal = false := lifts_of _ _ order_tail strip_words
end Go.Proofs.Ytaahnicjjpddjaa.Head
