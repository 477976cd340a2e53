/- A region that draws its order, whose operations turn nothing but what they made themselves, boxes that are known apart: whatever the order, each operation is run once, and what each leaves is said of the values that it takes. No condition. -/
import Derived.Test.YtaahnicjjpddjaaKMatricesWLast
import Derived.Below
namespace Go.Proofs.Ytaahnicjjpddjaa.Many3
open Go.RowKit Go.Proofs.YtaahnicjjpddjaaW.PrintLast
section
variable {P : Program} {ops : Array Oper} {Q : Exit → Act → World → Prop} {T : TypeId}
/-- What an operation leaves, by the values that those of ds left. -/
structure Ext (T : TypeId) (w w' : World) : Prop where
  size : w.heap.size ≤ w'.heap.size
  blk : ∀ (g : Nat) cs t f, t ≠ T → w.heap[g]? = some (.cells cs t f) → w'.heap[g]? = some (.cells cs t f)
  box : ∀ (g : Nat) cs f, w.heap[g]? = some (.cells cs T f) → ∃ cs', cs'.size = cs.size ∧ w'.heap[g]? = some (.cells cs' T f)
theorem lt_of_some {w : World} {g : Nat} {o : Obj} (h : w.heap[g]? = some o) : g < w.heap.size := by
  rcases Nat.lt_or_ge g w.heap.size with h' | h'
  · exact h'
  · rw [Array.getElem?_eq_none h'] at h; cases h
theorem Ext.of {T : TypeId} {w w' : World} (h : Below w.heap.size w w') : Ext T w w' := ⟨h.size, fun g cs t f _ hg => by rw [h.block g (lt_of_some hg)]; exact hg, fun g cs f hg => ⟨cs, rfl, by rw [h.block g (lt_of_some hg)]; exact hg⟩⟩
theorem Ext.put {T : TypeId} {w : World} {g : Nat} {cs : Array Value} {f : Nat × Nat} (hg : w.heap[g]? = some (.cells cs T f)) (j : Nat) (v : Value) : Ext T w (w.setCell ⟨g, j, none⟩ v) := ⟨by simp [World.setCell], fun g' cs' t' f' ht hg' => by
  have hne : g ≠ g' := fun e => by
    subst e
    rw [hg] at hg'
    injection hg' with e1
    injection e1 with e2 e3
    exact ht e3.symm
  simp only [World.setCell, Array.getElem?_modify, hne, if_false]
  exact hg', fun g' cs' f' hg' => by
  by_cases e : g = g'
  · subst e
    rw [hg] at hg'
    injection hg' with e1
    injection e1 with e2 e3 e4
    subst e2
    subst e4
    refine ⟨cs.setIfInBounds j v, by simp, ?_⟩
    simp only [World.setCell, Array.getElem?_modify, if_true, hg, Option.map_some]
    rfl
  · refine ⟨cs', rfl, ?_⟩
    simp only [World.setCell, Array.getElem?_modify, e, if_false]
    exact hg'⟩
structure Sp (T : TypeId) where
  ds : List Nat
  p : List Value → Value → World → Prop
  mono : ∀ vs v w w', Below w.heap.size w w' → p vs v w → p vs v w'
def upd (val : Nat → Value) (i : Nat) (v : Value) : Nat → Value := fun j => if j = i then v else val j
theorem upd_self (val : Nat → Value) (i : Nat) (v : Value) : upd val i v i = v := if_pos rfl
theorem upd_ne {val : Nat → Value} {i j : Nat} {v : Value} (h : j ≠ i) : upd val i v j = val j := if_neg h
def Says (sp : Array (Sp T)) (val : Nat → Value) (i : Nat) (w : World) : Prop := ∀ s, sp[i]? = some s → s.p (s.ds.map val) (val i) w
def Does (P : Program) (o : Oper) (ev : Operand → Value) (w : World) (K : Value → World → Prop) : Prop :=
  match (execOp ev o).run P w with
  | .ok (.value v) w' => K v w'
  | .ok .skip w' => o.dst = none ∧ K undef w'
  | .ok (.enter f args) w' => Calls P f args w' fun e w'' => ∃ v, e = .returned v ∧ K v w''
  | _ => False
theorem does_value {o : Oper} {ev : Operand → Value} {w w1 : World} {v : Value} {K : Value → World → Prop} (hrun : (execOp ev o).run P w = .ok (.value v) w1) (h : K v w1) : Does P o ev w K := by
  unfold Does
  rw [hrun]
  exact h
theorem does_skip {o : Oper} {ev : Operand → Value} {w w1 : World} {K : Value → World → Prop} (hrun : (execOp ev o).run P w = .ok .skip w1) (hd : o.dst = none) (h : K undef w1) : Does P o ev w K := by
  unfold Does
  rw [hrun]
  exact ⟨hd, h⟩
theorem does_call {o : Oper} {ev : Operand → Value} {w w1 : World} {f : FuncId} {args : Array Value} {K : Value → World → Prop} (hrun : (execOp ev o).run P w = .ok (.enter f args) w1) (h : Calls P f args w1 fun e w'' => ∃ v, e = .returned v ∧ K v w'') : Does P o ev w K := by
  unfold Does
  rw [hrun]
  exact h
theorem does_go {oi : Oper} {a : Act} {w : World} {K : Value → World → Prop} {f : FuncId} {fn : Func} {as : Array Operand} {ts : Array TypeId} (hf : P.funcs[f]? = some fn) (hname : (fn.name == "runtime.NumGoroutine") = false) (hb : fn.body.isSome = true) (args : Array Value)
    (hop : oi.op = .call { callee := .value (.func f), args := as, argTypes := ts }) (hargs : as.map a.eval = args) (h : Calls P f args w fun e w'' => ∃ v, e = .returned v ∧ K v w'') : Does P oi a.eval w K := by
  refine does_call ?_ h
  have he := enters_ hf hname hb args w
  unfold execOp
  simp [hop, resolve, Deferred.ofValue, invoke, Act.eval, hargs, he]
theorem one_cell {cs : Array Value} (h : cs.size = 1) : ∃ x, cs = #[x] := ⟨cs[0], by
  apply Array.ext
  · simp [h]
  · intro i h1 h2
    have : i = 0 := by omega
    subst this
    rfl⟩
theorem Does.wp {o : Oper} {a : Act} {ev : Operand → Value} {w : World} {K : Value → World → Prop} (he : execOp a.eval o = execOp ev o) (h : Does P o ev w K) : o.wp P a w (fun a' w' => ∃ v, a' = a.put o.dst v ∧ K v w') Q := by
  unfold Does at h
  unfold Oper.wp
  rw [he]
  generalize (execOp ev o).run P w = r at h
  cases r with
  | halt x w' => exact h.elim
  | ok n w' =>
    cases n with
    | value v => exact ⟨v, rfl, h⟩
    | skip => exact ⟨undef, rfl, h.2⟩
    | enter f args =>
      refine Calls.mono h fun e w'' he => ?_
      obtain ⟨v, rfl, hk⟩ := he
      exact ⟨v, rfl, hk⟩
    | _ => exact h.elim
/-- What is looked at of the operations alone. -/
structure Ok (ops : Array Oper) (m : Nat) (D : Array (List Nat)) : Prop where
  sel : ∀ (i : Nat) (o : Oper) cs b, ops[i]? = some o → o.op ≠ .select cs b
  guard : ∀ (i : Nat) (o : Oper), ops[i]? = some o → o.guard = none
  dst : ∀ (i : Nat) (o : Oper) (d : Tmp), ops[i]? = some o → o.dst = some d → d < m
  apart : ∀ (i j : Nat) (o o' : Oper) (d : Tmp), ops[i]? = some o → ops[j]? = some o' → o.dst = some d → o'.dst = some d → i = j
  low : ∀ (i : Nat) (o : Oper), ops[i]? = some o → ∀ e ∈ o.after, Region.binds .any e = true → e.on < i
  reads : ∀ (i : Nat) (o : Oper) (t : Tmp), ops[i]? = some o → .tmp t ∈ o.op.operands → ∀ (j : Nat) (o' : Oper), ops[j]? = some o' → o'.dst = some t → Region.reachB .any ops j ops.size i = true
  deps : ∀ (i j : Nat), i < ops.size → j ∈ D.getD i [] → Region.reachB .any ops j ops.size i = true
def dst? (ops : Array Oper) (i : Nat) : Option Tmp := (ops[i]?).bind (·.dst)
/-- Who waits for whom, by rows: for each operation those ahead of it (all of them, as it was worked out). -/
def okB (ops : Array Oper) (m : Nat) (D : Array (List Nat)) : Bool :=
  Region.noSelect ops && (List.range ops.size).all fun i => match ops[i]? with
    | none => false
    | some o => o.guard.isNone && (match o.dst with | none => true | some d => decide (d < m) && (List.range ops.size).all fun j => j == i || dst? ops j != some d) &&
      o.after.all (fun e => !Region.binds .any e || decide (e.on < i)) &&
      o.op.operands.all (fun x => match x with | .tmp t => (List.range ops.size).all fun j => dst? ops j != some t || Region.reachB .any ops j ops.size i | _ => true) &&
      (D.getD i []).all fun j => Region.reachB .any ops j ops.size i
theorem okB_spec {m : Nat} {D : Array (List Nat)} (h : okB ops m D = true) : Ok ops m D := by
  unfold okB at h
  rw [Bool.and_eq_true] at h
  have H : ∀ (i : Nat) (o : Oper), ops[i]? = some o → i < ops.size ∧ (o.guard.isNone && (match o.dst with | none => true | some d => decide (d < m) && (List.range ops.size).all fun j => j == i || dst? ops j != some d) &&
      o.after.all (fun e => !Region.binds .any e || decide (e.on < i)) &&
      o.op.operands.all (fun x => match x with | .tmp t => (List.range ops.size).all fun j => dst? ops j != some t || Region.reachB .any ops j ops.size i | _ => true) &&
      (D.getD i []).all fun j => Region.reachB .any ops j ops.size i) = true := fun i o ho => by
    have hlt : i < ops.size := (Array.getElem?_eq_some_iff.1 ho).1
    have := List.all_eq_true.1 h.2 i (List.mem_range.2 hlt)
    rw [ho] at this
    exact ⟨hlt, this⟩
  have hd : ∀ (i : Nat) (o : Oper) (d : Tmp), ops[i]? = some o → o.dst = some d → d < m ∧ ∀ (j : Nat) (o' : Oper), ops[j]? = some o' → o'.dst = some d → j = i := fun i o d ho hdst => by
    have := (H i o ho).2
    simp only [Bool.and_eq_true] at this
    have h1 := this.1.1.1.2
    rw [hdst] at h1
    simp only [Bool.and_eq_true, decide_eq_true_eq] at h1
    refine ⟨h1.1, fun j o' ho' hd' => ?_⟩
    have hj : j < ops.size := (Array.getElem?_eq_some_iff.1 ho').1
    have := List.all_eq_true.1 h1.2 j (List.mem_range.2 hj)
    simp [dst?, ho', hd'] at this
    exact this
  refine ⟨fun i o cs b hi => Region.noSelect_spec h.1 i o cs b hi, fun i o ho => ?_, fun i o d ho hdd => (hd i o d ho hdd).1, fun i j o o' d hi hj h1 h2 => ?_, fun i o ho e he hbe => ?_, fun i o t ho ht j o' hj hd' => ?_, fun i j hi hj => ?_⟩
  · have := (H i o ho).2
    simp only [Bool.and_eq_true] at this
    simpa using this.1.1.1.1
  · exact (hd j o' d hj h2).2 i o hi h1
  · have := (H i o ho).2
    simp only [Bool.and_eq_true] at this
    have h9 := Array.all_eq_true_iff_forall_mem.1 this.1.1.2 e he
    simpa [hbe] using h9
  · have := (H i o ho).2
    simp only [Bool.and_eq_true] at this
    have h1 := Array.all_eq_true_iff_forall_mem.1 this.1.2 _ ht
    have hlt : j < ops.size := (Array.getElem?_eq_some_iff.1 hj).1
    have h2 := List.all_eq_true.1 h1 j (List.mem_range.2 hlt)
    simpa [dst?, hj, hd'] using h2
  · cases ho : ops[i]? with
    | none => rw [Array.getElem?_eq_none_iff] at ho; omega
    | some o =>
      have := (H i o ho).2
      simp only [Bool.and_eq_true] at this
      exact List.all_eq_true.1 this.2 j hj
structure Inv (ops : Array Oper) (sp : Array (Sp T)) (own : List Nat) (a0 : Act) (w0 : World) (l : Array Bool) (val : Nat → Value) (a : Act) (w : World) : Prop where
  size : l.size = ops.size
  closed : ListedClosed .any ops l
  tsize : a.tmps.size = a0.tmps.size
  defers : a.defers = a0.defers
  below : Below w0.heap.size w0 w
  got : ∀ (i : Nat) (o : Oper) (d : Tmp), ops[i]? = some o → o.dst = some d → l.getD i false = true → a.tmps[d]? = some (val i)
  said : ∀ i, l.getD i false = true → Says sp val i w
  rest : ∀ (t : Tmp), (∀ (i : Nat) (o : Oper), ops[i]? = some o → o.dst ≠ some t) → a.tmps[t]? = a0.tmps[t]?
  ne : ∀ i, i ∈ own → ∀ j, j ∈ own → i ≠ j → l.getD i false = true → l.getD j false = true → val i ≠ val j
/-- The act with all that is left, as it stands behind the region. -/
structure Full (ops : Array Oper) (a0 : Act) (tm : (Nat → Value) → Array Value) : Prop where
  size : ∀ val, (tm val).size = a0.tmps.size
  got : ∀ val (i : Nat) (o : Oper) (d : Tmp), ops[i]? = some o → o.dst = some d → (tm val)[d]? = some (val i)
  rest : ∀ val (t : Tmp), (∀ (i : Nat) (o : Oper), ops[i]? = some o → o.dst ≠ some t) → (tm val)[t]? = a0.tmps[t]?
def fill (ops : Array Oper) (t : Array Value) (val : Nat → Value) : Nat → Array Value
  | 0 => t
  | n + 1 => match dst? ops n with | some d => (fill ops t val n).setIfInBounds d (val n) | none => fill ops t val n
theorem fill_size (t : Array Value) (val : Nat → Value) (n : Nat) : (fill ops t val n).size = t.size := by
  induction n with
  | zero => rfl
  | succ n ih => unfold fill; split <;> simp [ih]
theorem full_of {a0 : Act} {D : Array (List Nat)} (hok : Ok ops a0.tmps.size D) {tm : (Nat → Value) → Array Value} (h : ∀ val, fill ops a0.tmps val ops.size = tm val) : Full ops a0 tm := by
  obtain rfl : (fun val => fill ops a0.tmps val ops.size) = tm := funext h
  clear h
  have hg : ∀ (val : Nat → Value) (n i : Nat) (o : Oper) (d : Tmp), i < n → ops[i]? = some o → o.dst = some d → (fill ops a0.tmps val n)[d]? = some (val i) := fun val n => by
    induction n with
    | zero => intro i o d hi; omega
    | succ n ih =>
      intro i o d hi ho hd
      have hm := hok.dst i o d ho hd
      unfold fill
      by_cases e : i = n
      · subst e
        have : dst? ops i = some d := by simp [dst?, ho, hd]
        rw [this]
        simp [fill_size, hm]
      · have := ih i o d (by omega) ho hd
        cases hn : dst? ops n with
        | none => exact this
        | some d2 =>
          simp only []
          obtain ⟨o2, ho2, hd2⟩ : ∃ o2, ops[n]? = some o2 ∧ o2.dst = some d2 := by
            unfold dst? at hn
            cases h2 : ops[n]? with
            | none => rw [h2] at hn; cases hn
            | some o2 => rw [h2] at hn; exact ⟨o2, rfl, hn⟩
          have hne : d2 ≠ d := fun h => e (hok.apart i n o o2 d ho ho2 hd (h ▸ hd2))
          rw [Array.getElem?_setIfInBounds_ne hne]
          exact this
  refine ⟨fun val => fill_size _ _ _, fun val i o d ho hd => hg val ops.size i o d (Array.getElem?_eq_some_iff.1 ho).1 ho hd, fun val t ht => ?_⟩
  have : ∀ n, (fill ops a0.tmps val n)[t]? = a0.tmps[t]? := fun n => by
    induction n with
    | zero => rfl
    | succ n ih =>
      unfold fill
      cases hn : dst? ops n with
      | none => exact ih
      | some d2 =>
        simp only []
        have hne : d2 ≠ t := fun h => by
          unfold dst? at hn
          cases h2 : ops[n]? with
          | none => rw [h2] at hn; cases hn
          | some o2 => rw [h2] at hn; exact ht n o2 h2 (h ▸ hn)
        rw [Array.getElem?_setIfInBounds_ne hne]
        exact ih
  exact this _
theorem all_listed {m : Nat} {D : Array (List Nat)} (hok : Ok ops m D) {l : Array Bool} (hs : l.size = ops.size) (hr : Region.ready .any ops l = []) : ∀ i, i < ops.size → l.getD i false = true := by
  intro i
  induction i using Nat.strongRecOn with
  | ind i ih =>
    intro hi
    cases hl : l.getD i false with
    | true => rfl
    | false =>
      have : i ∈ Region.ready .any ops l := by
        rw [mem_ready]
        refine ⟨?_, ops[i], by simp [hi], fun e he hbe => ih e.on (hok.low i _ (by simp [hi]) e he hbe) (Nat.lt_trans (hok.low i _ (by simp [hi]) e he hbe) hi)⟩
        simp [hs, hi] at hl ⊢
        exact hl
      rw [hr] at this
      cases this
theorem getD_tf {l : Array Bool} {i : Nat} (h : l.getD i true = false) : l.getD i false = false ∧ i < l.size := by
  rcases Nat.lt_or_ge i l.size with h' | h'
  · simp [h'] at h ⊢; exact h
  · simp [Array.getElem?_eq_none h'] at h
theorem inv_all {a0 : Act} {sp : Array (Sp T)} {own : List Nat} {w0 w : World} {l : Array Bool} {val : Nat → Value} {a : Act} {D : Array (List Nat)} {tm : (Nat → Value) → Array Value} (hok : Ok ops a0.tmps.size D) (hf : Full ops a0 tm) (h : Inv ops sp own a0 w0 l val a w) (hr : Region.ready .any ops l = []) : a = ⟨tm val, a0.defers⟩ := by
  obtain ⟨at_, ad⟩ := a
  obtain rfl : ad = a0.defers := h.defers
  congr 1
  apply Array.ext_getElem?
  intro t
  by_cases ht : ∃ (i : Nat) (o : Oper), ops[i]? = some o ∧ o.dst = some t
  · obtain ⟨i, o, ho, hd⟩ := ht
    rw [hf.got val i o t ho hd]
    exact h.got i o t ho hd (all_listed hok h.size hr i (Array.getElem?_eq_some_iff.1 ho).1)
  · have hn : ∀ (i : Nat) (o : Oper), ops[i]? = some o → o.dst ≠ some t := fun i o ho hd => ht ⟨i, o, ho, hd⟩
    rw [hf.rest val t hn]
    exact h.rest t hn
theorem count_set {l : Array Bool} {i n : Nat} (h : l.getD i true = false) (hc : l.toList.count false ≤ n + 1) : (l.setIfInBounds i true).toList.count false ≤ n := by
  have hi := (getD_tf h).2
  rw [Array.toList_setIfInBounds, List.count_set (by simpa using hi)]
  have : l.toList[i]'(by simpa using hi) = false := by simp [hi] at h; simpa using h
  rw [this]
  simp only [beq_self_eq_true, if_true, Bool.true_beq, Bool.false_eq_true, if_false, Nat.add_zero]
  simp
  simp at hc
  omega
theorem many_go {a0 : Act} {w0 : World} {sp : Array (Sp T)} {own : List Nat} {D : Array (List Nat)} {tm : (Nat → Value) → Array Value} (hds : sp.map Sp.ds = D) (hok : Ok ops a0.tmps.size D) (hf : Full ops a0 tm)
    (hstep : ∀ (i : Nat) (o : Oper), ops[i]? = some o → ∀ val w (lst : Nat → Prop), Below w0.heap.size w0 w → ¬ lst i → (∀ j ∈ D.getD i [], lst j) → (∀ j, lst j → j < ops.size ∧ ∀ d ∈ D.getD j [], lst d) → (∀ j, lst j → Says sp val j w) → (∀ i, i ∈ own → ∀ j, j ∈ own → i ≠ j → lst i → lst j → val i ≠ val j) → Does P o (Act.eval ⟨tm val, a0.defers⟩) w fun v w' => (Below w0.heap.size w w' ∧ ∀ j, lst j → Says sp val j w') ∧ (i ∈ own → ∀ j, j ∈ own → lst j → val j ≠ v) ∧ Says sp (upd val i v) i w')
    (hend : ∀ val w, Below w0.heap.size w0 w → (∀ i, i < ops.size → Says sp val i w) → Q .normal ⟨tm val, a0.defers⟩ w) :
    ∀ (fuel : Nat) (l : Array Bool) (val : Nat → Value) (a : Act) (w : World), Inv ops sp own a0 w0 l val a w → l.toList.count false ≤ fuel → wpAny P .any ops Q fuel l a w := by
  have fin : ∀ l val a w, Inv ops sp own a0 w0 l val a w → Region.ready .any ops l = [] → Q .normal a w := fun l val a w h hr => by
    rw [inv_all hok hf h hr]
    exact hend val w h.below (fun i hi => h.said i (all_listed hok h.size hr i hi))
  intro fuel
  induction fuel with
  | zero =>
    intro l val a w h hc
    have hr : Region.ready .any ops l = [] := by
      rw [List.eq_nil_iff_forall_not_mem]
      intro i hi
      have h1 := (mem_ready.1 hi).1
      have h2 := List.count_eq_zero.1 (Nat.le_zero.1 hc)
      have h3 := (getD_tf h1).2
      apply h2
      simp [h3] at h1
      rw [← h1]
      simp
    exact ⟨hr, fin l val a w h hr⟩
  | succ fuel ih =>
    intro l val a w h hc
    refine ⟨fin l val a w h, fun i hi => ?_⟩
    obtain ⟨hun, o, ho, hall⟩ := mem_ready.1 hi
    have hlt : i < ops.size := (Array.getElem?_eq_some_iff.1 ho).1
    have hreach : ∀ j, Region.reachB .any ops j ops.size i = true → l.getD j false = true ∧ j ≠ i := fun j hj => by
      have h1 : l.getD j true ≠ false := fun h1 => Region.reach_not_ready h.closed hj h1 hi
      have hne : j ≠ i := fun e => h1 (e ▸ hun)
      refine ⟨?_, hne⟩
      have hs : j < l.size := by
        rw [h.size]
        cases hsz : ops.size with
        | zero => omega
        | succ n =>
          rw [hsz] at hj
          have : ∀ f i, i ≤ n → Region.reachB .any ops j f i = true → j ≤ n := fun f => by
            induction f with
            | zero => intro i _ h; simp [Region.reachB] at h
            | succ f ihf =>
              intro i hi2 h
              unfold Region.reachB at h
              cases ho2 : ops[i]? with
              | none => rw [ho2] at h; simp at h
              | some o2 =>
                rw [ho2] at h
                obtain ⟨e, he, h3⟩ := Array.any_eq_true'.1 h
                simp only [Bool.and_eq_true, Bool.or_eq_true, beq_iff_eq] at h3
                have hlow := hok.low i o2 ho2 e he h3.1
                rcases h3.2 with h4 | h4
                · omega
                · exact ihf e.on (by omega) h4
          have := this _ i (by omega) hj
          omega
      simp [hs] at h1 ⊢
      exact h1
    have hdo := hstep i o ho val w (fun j => l.getD j false = true) h.below (by rw [(getD_tf hun).1]; simp) (fun j hj => (hreach j (hok.deps i j hlt hj)).1) (fun j hl => by
      have hjlt : j < ops.size := by
        rw [← h.size]
        rcases Nat.lt_or_ge j l.size with h' | h'
        · exact h'
        · simp [Array.getElem?_eq_none h'] at hl
      exact ⟨hjlt, fun d hd => Region.reach_listed h.closed _ j (hok.deps j d hjlt hd) hl⟩) h.said h.ne
    have hev : execOp a.eval o = execOp (Act.eval ⟨tm val, a0.defers⟩) o := by
      refine execOp_congr o (fun cs b => hok.sel i o cs b ho) fun x hx => ?_
      cases x with
      | tmp t =>
        show a.tmps.getD t undef = (tm val).getD t undef
        rw [Array.getD_eq_getD_getElem?, Array.getD_eq_getD_getElem?]
        congr 1
        by_cases ht : ∃ (j : Nat) (o' : Oper), ops[j]? = some o' ∧ o'.dst = some t
        · obtain ⟨j, o', ho', hd'⟩ := ht
          rw [hf.got val j o' t ho' hd']
          exact h.got j o' t ho' hd' (hreach j (hok.reads i o t ho hx j o' ho' hd')).1
        · have hn : ∀ (i : Nat) (o : Oper), ops[i]? = some o → o.dst ≠ some t := fun i o ho hd => ht ⟨i, o, ho, hd⟩
          rw [hf.rest val t hn]
          exact h.rest t hn
      | _ => rfl
    have hw := Does.wp (Q := Q) hev hdo
    unfold wpOp
    rw [ho]
    show if Region.wanted o (yielded ops a.tmps) = true then _ else _
    have hwant : Region.wanted o (yielded ops a.tmps) = true := by simp [Region.wanted, hok.guard i o ho]
    rw [if_pos hwant]
    refine Or.inl (Oper.wp_mono ?_ hw)
    rintro a' w' ⟨v, rfl, ⟨hb, hx⟩, hown, hsays⟩
    refine ih (l.setIfInBounds i true) (upd val i v) _ w' ⟨by simp [h.size], h.closed.set hi, ?_, ?_, ?_, ?_, ?_, ?_, ?_⟩ (count_set hun hc)
    · cases hd : o.dst with
      | none => exact h.tsize
      | some d => simp [Act.put, h.tsize]
    · cases hd : o.dst with
      | none => exact h.defers
      | some d => simp [Act.put, h.defers]
    · exact h.below.trans hb
    · intro j o' d' ho' hd' hl
      by_cases e : j = i
      · subst e
        rw [ho] at ho'
        cases ho'
        have hdm := hok.dst j o d' ho hd'
        rw [hd', upd_self]
        simp [Act.put, h.tsize, hdm]
      · rw [getD_set_ne false (Ne.symm e)] at hl
        rw [upd_ne e]
        cases hd : o.dst with
        | none => exact h.got j o' d' ho' hd' hl
        | some d =>
          simp only [Act.put]
          have hne : d ≠ d' := fun hh => e (hok.apart j i o' o d' ho' ho hd' (hh ▸ hd))
          rw [Array.getElem?_setIfInBounds_ne hne]
          exact h.got j o' d' ho' hd' hl
    · intro j hl
      by_cases e : j = i
      · subst e; exact hsays
      · rw [getD_set_ne false (Ne.symm e)] at hl
        have hj := hx j hl
        intro s hs
        have h1 := hj s hs
        have hsd : D.getD j [] = s.ds := by rw [← hds]; simp [hs]
        have hds2 : s.ds.map (upd val i v) = s.ds.map val := List.map_congr_left fun k hk => by
          refine upd_ne fun hki => ?_
          subst hki
          have hjlt : j < ops.size := by
            rw [← h.size]
            rcases Nat.lt_or_ge j l.size with h' | h'
            · exact h'
            · simp [Array.getElem?_eq_none h'] at hl
          have hr := hok.deps j k hjlt (by rw [hsd]; exact hk)
          have := Region.reach_listed h.closed _ j hr hl
          rw [(getD_tf hun).1] at this
          cases this
        rw [hds2, upd_ne e]
        exact h1
    · intro t ht
      cases hd : o.dst with
      | none => exact h.rest t ht
      | some d =>
        simp only [Act.put]
        have hne : d ≠ t := fun hh => ht i o ho (hh ▸ hd)
        rw [Array.getElem?_setIfInBounds_ne hne]
        exact h.rest t ht
    · intro p hp q hq hpq hlp hlq
      by_cases e : p = i
      · subst e
        have e2 : q ≠ p := Ne.symm hpq
        rw [getD_set_ne false (Ne.symm e2)] at hlq
        rw [upd_self, upd_ne e2]
        exact Ne.symm (hown hp q hq hlq)
      · rw [getD_set_ne false (Ne.symm e)] at hlp
        by_cases e2 : q = i
        · subst e2
          rw [upd_self, upd_ne e]
          exact hown hq p hp hlp
        · rw [getD_set_ne false (Ne.symm e2)] at hlq
          rw [upd_ne e, upd_ne e2]
          exact h.ne p hp q hq hpq hlp hlq
def fillL (val : Nat → Value) : Nat → List (Option Tmp) → Array Value → Array Value
  | _, [], t => t
  | i, some d :: ds, t => fillL val (i + 1) ds (t.setIfInBounds d (val i))
  | i, none :: ds, t => fillL val (i + 1) ds t
def put1 (t : Array Value) (d : Option Tmp) (v : Value) : Array Value := match d with | some d => t.setIfInBounds d v | none => t
theorem fillL_snoc (val : Nat → Value) (d : Option Tmp) (L : List (Option Tmp)) : ∀ (i : Nat) (t : Array Value), fillL val i (L ++ [d]) t = put1 (fillL val i L t) d (val (i + L.length)) := by
  induction L with
  | nil => intro i t; cases d <;> rfl
  | cons x L ih =>
    intro i t
    cases x <;> simp only [List.cons_append, fillL, ih, List.length_cons] <;> rw [show i + 1 + L.length = i + (L.length + 1) by omega]
theorem fill_L (t : Array Value) (val : Nat → Value) : ∀ n, fill ops t val n = fillL val 0 ((List.range n).map fun i => dst? ops i) t := by
  intro n
  induction n with
  | zero => rfl
  | succ n ih =>
    rw [List.range_succ, List.map_append, List.map_singleton, fillL_snoc]
    unfold fill
    rw [ih]
    simp only [List.length_map, List.length_range, Nat.zero_add]
    cases dst? ops n <;> rfl
/-- One operation's step, whatever came up ahead of it. -/
def StepAt (P : Program) (ops : Array Oper) (sp : Array (Sp T)) (D : Array (List Nat)) (own : List Nat) (tm : (Nat → Value) → Array Value) (de : List Deferred) (w0 : World) (i : Nat) : Prop :=
  ∀ (o : Oper), ops[i]? = some o → ∀ val w (lst : Nat → Prop), Below w0.heap.size w0 w → ¬ lst i → (∀ j ∈ D.getD i [], lst j) → (∀ j, lst j → j < ops.size ∧ ∀ d ∈ D.getD j [], lst d) → (∀ j, lst j → Says sp val j w) → (∀ i, i ∈ own → ∀ j, j ∈ own → i ≠ j → lst i → lst j → val i ≠ val j) → Does P o (Act.eval ⟨tm val, de⟩) w fun v w' => (Below w0.heap.size w w' ∧ ∀ j, lst j → Says sp val j w') ∧ (i ∈ own → ∀ j, j ∈ own → lst j → val j ≠ v) ∧ Says sp (upd val i v) i w'
theorem stepAt_of {sp : Array (Sp T)} {D : Array (List Nat)} {own : List Nat} {tm : (Nat → Value) → Array Value} {de : List Deferred} {w0 : World} {i : Nat} {oi : Oper} {s : Sp T} {ds : List Nat} (hi : ops[i]? = some oi) (hs : sp[i]? = some s) (hd : D.getD i [] = ds) (hn : s.ds.contains i = false)
    (h : ∀ val w (lst : Nat → Prop), Below w0.heap.size w0 w → ¬ lst i → (∀ j ∈ ds, lst j) → (∀ j, lst j → j < ops.size ∧ ∀ d ∈ D.getD j [], lst d) → (∀ j, lst j → Says sp val j w) → (∀ i, i ∈ own → ∀ j, j ∈ own → i ≠ j → lst i → lst j → val i ≠ val j) → Does P oi (Act.eval ⟨tm val, de⟩) w fun v w' => (Below w0.heap.size w w' ∧ ∀ j, lst j → Says sp val j w') ∧ (i ∈ own → ∀ j, j ∈ own → lst j → val j ≠ v) ∧ s.p (s.ds.map val) v w') : StepAt P ops sp D own tm de w0 i := fun o ho val w lst hB hnl hD hcl hS hne => by
  rw [hi] at ho
  cases ho
  have h1 := h val w lst hB hnl (hd ▸ hD) hcl hS hne
  have hm : ∀ v, s.ds.map (upd val i v) = s.ds.map val := fun v => List.map_congr_left fun k hk => upd_ne fun e => by
    subst e
    rw [List.contains_iff_mem.2 hk] at hn
    cases hn
  unfold Does at h1 ⊢
  have hK : ∀ v w', ((Below w0.heap.size w w' ∧ ∀ j, lst j → Says sp val j w') ∧ (i ∈ own → ∀ j, j ∈ own → lst j → val j ≠ v) ∧ s.p (s.ds.map val) v w') → ((Below w0.heap.size w w' ∧ ∀ j, lst j → Says sp val j w') ∧ (i ∈ own → ∀ j, j ∈ own → lst j → val j ≠ v) ∧ Says sp (upd val i v) i w') := fun v w' hh => ⟨hh.1, hh.2.1, fun s' hs' => by
    rw [hs] at hs'
    cases hs'
    rw [hm, upd_self]
    exact hh.2.2⟩
  generalize (execOp _ oi).run P w = r at h1 ⊢
  cases r with
  | halt x w' => exact h1
  | ok n w' =>
    cases n with
    | value v => exact hK v w' h1
    | skip => exact ⟨h1.1, hK _ w' h1.2⟩
    | enter f args => exact Calls.mono h1 fun e w'' ⟨v, he, hk⟩ => ⟨v, he, hK v w'' hk⟩
    | _ => exact h1
theorem keep_all {sp : Array (Sp T)} {val : Nat → Value} {lst : Nat → Prop} {w w' : World} (hb : Below w.heap.size w w') (h : ∀ j, lst j → Says sp val j w) : ∀ j, lst j → Says sp val j w' := fun j hj s hs => s.mono _ _ _ _ hb (h j hj s hs)
theorem many_ {id : Nat} {a0 : Act} {w0 : World} (sp : Array (Sp T)) (own : List Nat) (D : Array (List Nat)) (L : List (Option Tmp)) (n : Nat) (tm : (Nat → Value) → Array Value) (hm : P.follows .mixedOrders = true) (hn : ops.size = n) (hds : sp.toList.map Sp.ds = D.toList) (hL : ((List.range ops.size).map fun i => dst? ops i) = L) (hok : okB ops a0.tmps.size D = true) (hf : ∀ val, fillL val 0 L a0.tmps = tm val)
    (hstep : ∀ i, i < n → StepAt P ops sp D own tm a0.defers w0.drew i)
    (hend : ∀ val w, Below w0.drew.heap.size w0.drew w → (∀ i, i < n → Says sp val i w) → Q .normal ⟨tm val, a0.defers⟩ w) : (Code.region id ops true).wp P Q a0 w0 := by
  have h := okB_spec hok
  subst hn
  have hds : sp.map Sp.ds = D := Array.toList_inj.1 (by simpa using hds)
  refine wp_region_any hm (many_go (a0 := a0) (w0 := w0.drew) hds h (full_of h fun val => ?_) (fun i o ho => hstep i (Array.getElem?_eq_some_iff.1 ho).1 o ho) hend ops.size _ (fun _ => undef) a0 w0.drew ⟨by simp, ?_, rfl, rfl, Below.refl _ _, ?_, ?_, fun _ _ => rfl, ?_⟩ ?_)
  · rw [fill_L, hL]
    exact hf val
  · intro j oj hj hl
    simp [Array.getElem?_replicate] at hl
    split at hl <;> simp at hl
  · intro i o d hi hd hl
    simp [Array.getElem?_replicate] at hl
    split at hl <;> simp at hl
  · intro i hl
    simp [Array.getElem?_replicate] at hl
    split at hl <;> simp at hl
  · intro i _ j _ _ hl
    simp [Array.getElem?_replicate] at hl
    split at hl <;> simp at hl
  · refine Nat.le_trans (List.count_le_length) ?_
    simp
def Sp.eq (ds : List Nat) (f : List Value → Value) : Sp T := ⟨ds, fun vs v _ => v = f vs, fun _ _ _ _ _ h => h⟩
theorem undrew {B : Nat} {w W : World} (h : Below B w.drew W) : Below B w W := ⟨h.os, h.tape, h.output, h.size, h.block⟩
theorem all_zero {p : Nat → Prop} : ∀ i, i < 0 → p i := fun i h => by omega
theorem all_succ {p : Nat → Prop} {n : Nat} (h : ∀ i, i < n → p i) (h1 : p n) : ∀ i, i < n + 1 → p i := fun i hi => by
  rcases Nat.lt_succ_iff_lt_or_eq.1 hi with h2 | h2
  · exact h i h2
  · exact h2 ▸ h1
end
end Go.Proofs.Ytaahnicjjpddjaa.Many3
