/- The library's search by a function, at the one function that the program hands it (is a number none of the field?): what it answers of any slice of whole numbers. -/
import Derived.Test.YtaahnicjjpddjaaProg
import Derived.Test.YtaahnicjjpddjaaKMatricesWKept
import Derived.Test.YtaahnicjjpddjaaKMatricesWFour
namespace Go.Proofs.YtaahnicjjpddjaaW.PrintWords   -- short names, for texts that must be short
open Go.RowKit
theorem gCa {P : Program} {ops : Array Oper} {rest : List Oper} {o : Oper} {a : Act} {Q : Exit → Act → World → Prop} {W : World} {f : FuncId} {xs : Array Operand} {ts : Array TypeId} (_ : o.op = .call { callee := .value (.func f), args := xs, argTypes := ts }) (h : wpList P ops Q (o :: rest) a W) : wpList P ops Q (o :: rest) a W := h
theorem gBu {P : Program} {ops : Array Oper} {rest : List Oper} {o : Oper} {a : Act} {Q : Exit → Act → World → Prop} {W : World} {b : Builtin} {xs : Array Operand} {ts : Array TypeId} (_ : o.op = .call { callee := .builtin b, args := xs, argTypes := ts }) (h : wpList P ops Q (o :: rest) a W) : wpList P ops Q (o :: rest) a W := h
theorem dSe (w : World) (n : Nat) : w.drewN n = w.drewN n := rfl
theorem mk0 {p : Prop} (h : p) : Aside0 p := ⟨h⟩
theorem bN {w : World} {g : Nat} {o : Obj} (h : w.heap[g]? = some o) (n : Nat) : (w.drewN n).heap[g]? = some o := blk_drewN h n
theorem bD {w : World} {g : Nat} {o : Obj} (h : w.heap[g]? = some o) : w.drew.heap[g]? = some o := blk_drew h
theorem bA {w : World} {g : Nat} {o : Obj} (h : w.heap[g]? = some o) (o' : Obj) : (w.alloc o').heap[g]? = some o := blk_alloc h o'
theorem lA {w W : World} (h : Below w.heap.size w W) (o : Obj) : Below w.heap.size w (W.alloc o) := below_alloc h o
theorem lN {B : Nat} {w W : World} (h : Below B w W) (n : Nat) : Below B w (W.drewN n) := pw_below_drewN h n
theorem lD {B : Nat} {w W : World} (h : Below B w W) : Below B w W.drew := below_drew1 h
theorem lT {w W : World} {g j : Nat} {v : Value} (h : Below w.heap.size w W) (hg : Aside0 (w.heap.size ≤ g)) : Below w.heap.size w (W.setCell ⟨g, j, none⟩ v) := below_set h hg.out
theorem sA {α : Type} {d : Kd α} {e : TypeId} {w : World} {base : Nat} {ok : Nat → Prop} {v : Value} {xs : List α} (h : Kd.S d e w base ok v xs) (o : Obj) : Kd.S d e (w.alloc o) base ok v xs := Kd.S_alloc h o
theorem sD {α : Type} {d : Kd α} {e : TypeId} {w : World} {base : Nat} {ok : Nat → Prop} {v : Value} {xs : List α} (h : Kd.S d e w base ok v xs) : Kd.S d e w.drew base ok v xs := Kd.S_drew h
theorem sN {α : Type} {d : Kd α} {e : TypeId} {w : World} {base : Nat} {ok : Nat → Prop} {v : Value} {xs : List α} (h : Kd.S d e w base ok v xs) (m : Nat) : Kd.S d e (w.drewN m) base ok v xs := Kd.S_drewN h m
theorem rA {α : Type} {d : Kd α} {e : TypeId} {w : World} {base : Nat} {ok : Nat → Prop} {v : Value} {xs : List α} (h : Kd.R d e w base ok v xs) (o : Obj) : Kd.R d e (w.alloc o) base ok v xs := Kd.R_alloc h o
theorem rD {α : Type} {d : Kd α} {e : TypeId} {w : World} {base : Nat} {ok : Nat → Prop} {v : Value} {xs : List α} (h : Kd.R d e w base ok v xs) : Kd.R d e w.drew base ok v xs := Kd.R_drew h
theorem rN {α : Type} {d : Kd α} {e : TypeId} {w : World} {base : Nat} {ok : Nat → Prop} {v : Value} {xs : List α} (h : Kd.R d e w base ok v xs) (m : Nat) : Kd.R d e (w.drewN m) base ok v xs := Kd.R_drewN h m
end Go.Proofs.YtaahnicjjpddjaaW.PrintWords
namespace Go.Proofs.YtaahnicjjpddjaaW.PrintMore
end Go.Proofs.YtaahnicjjpddjaaW.PrintMore
namespace Go.Proofs.Ytaahnicjjpddjaa.Fn
open Go.RowKit Go.Proofs.YtaahnicjjpddjaaW.PrintWords Go.Proofs.YtaahnicjjpddjaaW.PrintLast Go.Proofs.YtaahnicjjpddjaaW.PrintMore
/-- is a number one of the field? -/
def isB (x : Int) : Bool := decide (0 ≤ x) && decide (x < 256)
def badB (x : Int) : Bool := !isB x
def anyBad (xs : List Int) : Bool := xs.any badB
theorem is_calls (x : Int) (w : World) : Calls Try.prog 74 #[.int .i64 x] w fun e w' => e = .returned (.bool (isB x)) ∧ w = w' := by
  unfold isB
  by_cases h0 : 0 ≤ x
  · have h1 : decide (0 ≤ x) = true := decide_eq_true h0
    rw [h1, Bool.true_and]
    go_enter Try.func74, Try.ntmps74
    go_wp2
    go_ret
    exact ⟨rfl, rfl⟩
  · have h1 : decide (0 ≤ x) = false := decide_eq_false h0
    rw [h1, Bool.false_and]
    go_enter Try.func74, Try.ntmps74
    go_wp2
    go_ret
    exact ⟨rfl, rfl⟩
theorem bad_calls (x : Int) (w : World) : Calls Try.prog 73 #[.int .i64 x] w fun e w' => e = .returned (.bool (badB x)) ∧ w = w' := by
  go_enter Try.func73, Try.ntmps73
  go_wp2_with (go_at_call 74; refine (is_calls _ _).mono ?_; rintro e w' ⟨rfl, rfl⟩)
  go_ret
  exact ⟨rfl, rfl⟩
/-- the place of the first that is none, or -1. -/
def idxB (xs : List Int) : Int := match xs.findIdx? badB with | some i => (i : Int) | none => -1
theorem idxB_some {xs : List Int} {i : Nat} (h : xs.findIdx? badB = some i) : idxB xs = (i : Int) := by unfold idxB; rw [h]
theorem idxB_none {xs : List Int} (h : xs.findIdx? badB = none) : idxB xs = -1 := by unfold idxB; rw [h]
set_option maxHeartbeats 1000000 in
/-- It answers -1, or the place of one that is none. -/
theorem index_calls (A : Option Addr) (c : Nat) (xs : List Int) (w : World) (hr : Kd.C (Kd.int .i64) w A xs.length xs) :
    Calls Try.prog 92 #[.slice A xs.length c, .func (.func 73) #[] #[]] w fun e w' => e = .returned (.int .i64 (idxB xs)) ∧ w = w' := by
  have hm : xs.length ≤ 9223372036854775807 := hr.2.1
  have HR := Aside0.mk hr
  clear hr
  go_enter Try.func92, Try.ntmps92
  go_wp2
  go_loop [8] (fun i => ∃ k : Nat, i = .int .i64 k ∧ k ≤ xs.length ∧ Aside0 (∀ j, j < k → ∀ h : j < xs.length, badB xs[j] = false)) (fun i => xs.length - (intOf i).toNat)
  case atStart => exact ⟨0, rfl, Nat.zero_le _, ⟨fun j hj => absurd hj (by omega)⟩⟩
  case round =>
    obtain ⟨k, rfl, hk, HG⟩ := hrel
    by_cases hlt : k < xs.length
    · obtain ⟨ad, e, hc⟩ := Kd.at_int HR.out (k : Int) (by omega) (by omega)
      subst e
      have hrd : rd xs (k : Int) = xs[k] := by unfold rd; rw [Int.toNat_natCast, List.getD_eq_getElem?_getD, List.getElem?_eq_getElem hlt]; rfl
      rw [hrd, Int.toNat_natCast] at hc
      cases hb : badB xs[k] with
      | true =>
        have hf : xs.findIdx? badB = some k := by
          rw [List.findIdx?_eq_some_iff_getElem]
          exact ⟨hlt, hb, fun j hj => by rw [HG.out j hj (by omega)]; decide⟩
        have Hf := Aside0.mk (idxB_some hf)
        clear hf
        have Hb := Aside0.mk hb
        clear hb
        go_wp2_with (go_at_call 73; refine (bad_calls _ _).mono ?_; rw [Hb.out]; rintro e w' ⟨rfl, rfl⟩)
        go_ret
        exact ⟨by rw [Hf.out]; rfl, rfl⟩
      | false =>
        have Hb := Aside0.mk hb
        clear hb
        go_wp2_with (go_at_call 73; refine (bad_calls _ _).mono ?_; rw [Hb.out]; rintro e w' ⟨rfl, rfl⟩)
        go_round
        case rel =>
          refine ⟨k + 1, by go_num, by omega, ⟨fun j hj h => ?_⟩⟩
          by_cases e : j = k
          · subst e; exact Hb.out
          · exact HG.out j (by omega) h
        case measure => simp [intOf]; omega
    · have hf : xs.findIdx? badB = none := by
        rw [List.findIdx?_eq_none_iff]
        intro x hx
        obtain ⟨j, hj, rfl⟩ := List.mem_iff_getElem.1 hx
        exact HG.out j (by omega) hj
      have Hf := Aside0.mk (idxB_none hf)
      clear hf
      go_wp2
      go_ret
      exact ⟨by rw [Hf.out]; rfl, rfl⟩
theorem contains_calls (A : Option Addr) (c : Nat) (xs : List Int) (w : World) (hr : Kd.C (Kd.int .i64) w A xs.length xs) :
    Calls Try.prog 72 #[.slice A xs.length c, .func (.func 73) #[] #[]] w fun e w' => e = .returned (.bool (anyBad xs)) ∧ Drawn0 w w' := by
  cases hf : xs.findIdx? badB with
  | none =>
    have ha : anyBad xs = false := by
      unfold anyBad
      rw [List.findIdx?_eq_none_iff] at hf
      rw [List.any_eq_false]
      intro x hx
      rw [hf x hx]; decide
    rw [ha]
    have Hf := Aside0.mk (idxB_none hf)
    clear hf
    go_enter Try.func72, Try.ntmps72
    go_wp2_with (go_at_call 92; refine (index_calls _ _ _ _ hr).mono ?_; rw [Hf.out]; rintro e w' ⟨rfl, rfl⟩)
    go_ret
    exact ⟨rfl, Drawn0.refl _⟩
  | some i =>
    have ha : anyBad xs = true := by
      unfold anyBad
      rw [List.findIdx?_eq_some_iff_getElem] at hf
      obtain ⟨hi, hb, _⟩ := hf
      rw [List.any_eq_true]
      exact ⟨xs[i], List.getElem_mem hi, hb⟩
    rw [ha]
    have Hf := Aside0.mk (idxB_some hf)
    clear hf
    have hi : decide (0 ≤ (i : Int)) = true := decide_eq_true (by omega)
    go_enter Try.func72, Try.ntmps72
    go_wp2_with (go_at_call 92; refine (index_calls _ _ _ _ hr).mono ?_; rw [Hf.out]; rintro e w' ⟨rfl, rfl⟩)
    go_ret
    exact ⟨rfl, Drawn0.refl _⟩
/-- as the printed contracts have it: the function that is handed over is left unsaid. -/
def containsBad.f (xs : List Int) : Option Bool := some (anyBad xs)
theorem containsBad.calls (A0 : Option Addr) (c0 : Nat) (l0 : List Int) (r : Bool) (w : World) (hr0 : Kd.C (Kd.int .i64) w A0 l0.length l0) (_hc0 : l0.length ≤ c0) (h : containsBad.f l0 = some r) :
    Calls Try.prog 72 #[.slice A0 l0.length c0, .func (.func 73) #[] #[]] w fun e w' => e = .returned (.bool r) ∧ Drawn0 w w' := by
  have e := Option.some.inj h
  subst e
  exact contains_calls _ _ _ _ hr0
end Go.Proofs.Ytaahnicjjpddjaa.Fn
