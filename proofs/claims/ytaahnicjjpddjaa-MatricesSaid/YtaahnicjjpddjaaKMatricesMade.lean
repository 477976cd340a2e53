/- A matrix made by what a function handed over says of each row and column: new rows of the call's own. The function: any of the program's that makes nothing and answers whole numbers; the walk came out of wip/gen.py and was turned by hand. -/
import Derived.Test.YtaahnicjjpddjaaKMatricesCln
namespace Go.Proofs.Ytaahnicjjpddjaa.MadeW
open Go.RowKit Go.Proofs.YtaahnicjjpddjaaW.PrintWords Go.Proofs.YtaahnicjjpddjaaW.PrintLast Go.Proofs.YtaahnicjjpddjaaW.PrintMore
set_option linter.unusedVariables false
set_option linter.unusedSimpArgs false
section
variable {P : Program} {ops : Array Oper} {Q : Exit → Act → World → Prop}
/-- A call through a variable that holds a function (with what it captured), in a plain region. -/
theorem goesF_ {rest : List Oper} {oi : Oper} {a : Act} {w : World} (N : Option Tmp) (hd : oi.dst = N) (hg : oi.guard = none) {f : FuncId} {fn : Func} {aS : Array Operand} {ts : Array TypeId} {x : Operand} (hf : P.funcs[f]? = some fn) (hname : (fn.name == "runtime.NumGoroutine") = false) (hb : fn.body.isSome = true) (cap args : Array Value)
    (hop : oi.op = .call { callee := .value x, args := aS, argTypes := ts }) (hx : a.eval x = .func (.func f) #[] cap) (hargs : aS.map a.eval = args)
    (h : Calls P f (args ++ cap) w fun e w' => ∃ v, e = .returned v ∧ wpList P ops Q rest (a.put N v) w') : wpList P ops Q (oi :: rest) a w := by
  refine wpList_plain hg fun K hK => ?_
  have he := enters_ hf hname hb (args ++ cap) w
  have hrun : (execOp a.eval oi).run P w = .ok (.enter f (args ++ cap)) w := by
    unfold execOp
    simp [hop, resolve, Deferred.ofValue, invoke, hx, hargs, he]
  unfold Oper.wp
  rw [hrun, Oper.upon_enter]
  refine h.mono fun e w'' hh => ?_
  obtain ⟨v, rfl, hk⟩ := hh
  subst hd
  exact hK _ _ hk
end
def errW : Option Int → Value
  | none => .nilIface
  | some c => .iface 0 (.int .i64 c)
theorem errW_none : errW none = .nilIface := rfl
theorem errW_some (c : Int) : errW (some c) = .iface 0 (.int .i64 c) := rfl
theorem info3 : (Try.prog.info? 3).map (fun i => (i.zero, i.size, i.bytes)) = some (some (.int .i64 0), 1, 8) := by kernel_rfl
theorem info25 : (Try.prog.info? 25).map (fun i => (i.zero, i.size, i.bytes)) = some (some (.slice none 0 0), 1, 24) := by kernel_rfl
def rd_L1 (xs : List (List Int)) (i : Int) : (List Int) := xs.getD i.toNat ([] : List Int)
theorem at_L1 {w : World} {A : Option Addr} {n : Nat} {xs : List (List Int)} (h : Kd.C (Kd.slice 3 (Kd.int .i64)) w A n xs) (i : Int) (h0 : 0 ≤ i) (h1 : i < n) : ∃ ad A0 c0, A = some ad ∧ w.cell? (ad.add i.toNat) = some (.slice A0 (rd_L1 xs i).length c0) ∧ (rd_L1 xs i).length ≤ c0 ∧ (Kd.int .i64).C w A0 (rd_L1 xs i).length (rd_L1 xs i) := by
  obtain ⟨ad, c, e, _, hK, hc0⟩ := Kd.C_get h ([] : List Int) i h0 h1
  have hc : ∀ j u, c[j]? = some u → w.cell? (ad.add (i.toNat * 1 + j)) = some u := hc0
  obtain ⟨A0, c0, rfl, l0, g0⟩ := hK
  exact ⟨ad, A0, c0, e, uG, l0, g0⟩
mutual
def matrix_made.l0 (atf : Int → Int → Option Int) : Nat → Int → Int → Int → List (List Int) → Option ((List (List Int)))
  | 0, _, _, _, _ => none
  | k + 1, x1, x11, x12, x110000 => if x12 < x11 then (if 0 ≤ x1 then (if (x1 : Int).toNat ≤ 35184372088832 then ((some (List.replicate (x1 : Int).toNat 0 : List Int)).bind fun y110 => (matrix_made.l1 atf k x1 x12 y110 x11 x12 (y110.length : Int) 0 x110000)) else (none)) else (none)) else (some x110000)
def matrix_made.l1 (atf : Int → Int → Option Int) : Nat → Int → Int → List Int → Int → Int → Int → Int → List (List Int) → Option ((List (List Int)))
  | 0, _, _, _, _, _, _, _, _ => none
  | k + 1, x1, x8, x9, x11, x12, x18, x19, x110000 => if x19 < x18 then ((atf x8 x19).bind fun t113 => (if 0 ≤ x19 then (if x19 < (x9.length : Int) then (matrix_made.l1 atf k x1 x8 (x9.set (x19 : Int).toNat t113) x11 x12 x18 (wrap64 (x19 + 1)) x110000) else (none)) else (none))) else (if x110000.length < 5864062014805 then (matrix_made.l0 atf k x1 x11 (wrap64 (x12 + 1)) (x110000 ++ [x9])) else (none))
end
def matrix_made.f (atf : Int → Int → Option Int) (k : Nat) (a0 : Int) (a1 : Int) : Option ((List (List Int))) := matrix_made.l0 atf k a1 a0 0 ([] : List (List Int))
theorem matrix_made.mono_l (atf : Int → Int → Option Int) : ∀ k, (∀ y0 y1 y2 y3, LeO (matrix_made.l0 atf k y0 y1 y2 y3) (matrix_made.l0 atf (k + 1) y0 y1 y2 y3)) ∧ (∀ y0 y1 y2 y3 y4 y5 y6 y7, LeO (matrix_made.l1 atf k y0 y1 y2 y3 y4 y5 y6 y7) (matrix_made.l1 atf (k + 1) y0 y1 y2 y3 y4 y5 y6 y7))
  | 0 => ⟨fun _ _ _ _ r h => by simp [matrix_made.l0] at h, fun _ _ _ _ _ _ _ _ r h => by simp [matrix_made.l1] at h⟩
  | k + 1 => by
    obtain ⟨ih0, ih1⟩ := matrix_made.mono_l atf k
    refine ⟨?_, ?_⟩
    · intro y0 y1 y2 y3
      unfold matrix_made.l0
      repeat' with_reducible first | exact ih0 _ _ _ _ | exact ih1 _ _ _ _ _ _ _ _ | exact LeO.refl _ | exact LeO.none _ | refine LeO.ite ?_ ?_ | refine LeO.bind ?_ (fun _ => ?_)
    · intro y0 y1 y2 y3 y4 y5 y6 y7
      unfold matrix_made.l1
      repeat' with_reducible first | exact ih0 _ _ _ _ | exact ih1 _ _ _ _ _ _ _ _ | exact LeO.refl _ | exact LeO.none _ | refine LeO.ite ?_ ?_ | refine LeO.bind ?_ (fun _ => ?_)
theorem matrix_made.mono (atf : Int → Int → Option Int) : ∀ a0 a1 k, LeO (matrix_made.f atf k a0 a1) (matrix_made.f atf (k + 1) a0 a1) := by
  intro a0 a1 k
  obtain ⟨ih0, ih1⟩ := matrix_made.mono_l atf k
  unfold matrix_made.f
  repeat' with_reducible first | exact ih0 _ _ _ _ | exact ih1 _ _ _ _ _ _ _ _ | exact LeO.refl _ | exact LeO.none _ | refine LeO.ite ?_ ?_ | refine LeO.bind ?_ (fun _ => ?_)
set_option maxHeartbeats 8000000 in
set_option maxRecDepth 100000 in
theorem matrix_made.calls {f : FuncId} {fn : Func} (hf : Try.prog.funcs[f]? = some fn) (hname : (fn.name == "runtime.NumGoroutine") = false) (hbd : fn.body.isSome = true) (cap : Array Value) (atf : Int → Int → Option Int) (k : Nat) (a0 : Int) (a1 : Int) (r : List (List Int)) (w : World)
    (hat0 : ∀ (a b t : Int) (W : World), Below w.heap.size w W → atf a b = some t → Calls Try.prog f (#[.int .i64 a, .int .i64 b] ++ cap) W fun e w' => e = .returned (.int .i64 t) ∧ Drawn0 W w')
    (h : matrix_made.f atf k a0 a1 = some r) :
    Calls Try.prog 63 #[.int .i64 a0, .int .i64 a1, .func (.func f) #[] cap] w fun e w' => ∃ v0_ : Value, e = .returned (.agg #[v0_]) ∧ Kd.S (Kd.slice 3 (Kd.int .i64)) 25 w' w.heap.size (fun _ => True) v0_ r ∧ Below w.heap.size w w' := by
  have hu24 := Try.underlying24
  have HB := Aside0.mk (Below.refl w.heap.size w)
  have hat := Aside0.mk hat0
  clear hat0
  have Hf := Aside0.mk hf
  have Hn := Aside0.mk hname
  have Hb := Aside0.mk hbd
  clear hf hname hbd
  have H : (matrix_made.l0 atf k a1 a0 0 ([] : List (List Int))) = some r := h
  clear h
  have H' := Aside0.mk H
  clear H
  go_enter Try.func63, Try.ntmps63
  go_wp2_with (first | ((with_reducible refine gate_dst (N := 6) rfl ?_); refine box_event uT (N := 6) uT (cs := #[.slice none 0 0]) (t := 24) uK ?_; intro gb108 hg w3 hbox hb; have BK108 := mk0 (hbox); have GW108 := mk0 (nB hg HB); have GE108 := mk0 (nB hg HB); replace HB := mk0 (below_step uj hb); clear hb hbox hg) | ((with_reducible refine gate_dst (N := 7) rfl ?_); refine box_event uT (N := 7) uT (cs := #[.slice none 0 0]) (t := 24) uK ?_; intro gb109 hg w4 hbox hb; have BK109 := mk0 (hbox); have GW109 := mk0 (nB hg HB); have GE109 := mk0 (nB hg HB); replace HB := mk0 (below_step (by repeat (first | (with_reducible first | exact HB.out | apply below_alloc | apply pw_below_drewN | apply below_drew1 | refine below_set ?_ GE108.out) | exact HB.out)) hb); have NB108_109 := mk0 (nF hg BK108.out); have NB109_108 := mk0 (nE hg BK108.out); replace BK108 := bK BK108 hb; clear hb hbox hg))
  go_loopg [12] k (fun kq v12 w' => ∃ (x12_1 : Int) (x110000_1 : List (List Int)) (u110000 : Value), v12 = .int .i64 x12_1 ∧ Aside0 (matrix_made.l0 atf kq a1 a0 x12_1 x110000_1 = some r) ∧ Aside0 (kq ≤ k) ∧ Aside0 (Kd.S (Kd.slice 3 (Kd.int .i64)) 25 w' w.heap.size (fun _ => True) u110000 x110000_1) ∧ Aside0 (w'.heap[gb108]? = some (.cells #[(.slice none 0 0)] 24 (0, 0))) ∧ Aside0 (w'.heap[gb109]? = some (.cells #[u110000] 24 (0, 0))) ∧ Aside0 (Below w.heap.size w w'))
  case atStart => exact ⟨(0), (([] : List (List Int))), (.slice none 0 0), uJ, H', ⟨Nat.le_refl _⟩, ⟨uh⟩, ⟨bB BK108.out⟩, ⟨bB BK109.out⟩, ⟨uf⟩⟩
  case round =>
    clear H'
    try clear p2
    obtain ⟨x12_1, x110000_1, u110000, rfl, HA, HK1, HO_110000, BK108, BK109, HB⟩ := hrel
    cases gk with
    | zero => exact absurd HA.out (by simp [matrix_made.l0])
    | succ k1 =>
      have H := HA.out
      clear HA
      simp only [matrix_made.l0] at H
      by_cases c5 : x12_1 < a0
      · rw [if_pos c5] at H
        have c5b0 : decide (x12_1 < a0) = true := decide_eq_true c5
        clear c5
        by_cases c6 : 0 ≤ a1
        · rw [if_pos c6] at H
          have c6b0 := eq_true c6
          have c6b1 : decide (0 ≤ a1) = true := decide_eq_true c6
          clear c6
          by_cases c7 : (a1 : Int).toNat ≤ 35184372088832
          · rw [if_pos c7] at H
            have c7b0 := eq_true c7
            have c7b1 : decide ((a1 : Int).toNat ≤ 35184372088832) = true := decide_eq_true c7
            clear c7
            obtain ⟨y110, hy110⟩ : ∃ y_ : List Int, y_ = (List.replicate (a1 : Int).toNat 0) := ⟨_, rfl⟩
            replace H : (matrix_made.l1 atf k1 a1 x12_1 y110 a0 x12_1 (y110.length : Int) 0 x110000_1) = some r := by first | (rw [hy110]; with_reducible exact H) | (have H2_ := (Option.bind_some _ _).symm.trans H; rw [hy110]; with_reducible exact H2_) | (have H2_ := (Option.bind_some _ _).symm.trans H; with_reducible exact H2_) | with_reducible exact H | (rw [hy110]; exact H) | exact H
            have Ny110 := Aside0.mk hy110
            clear hy110
            have H' := Aside0.mk H
            clear H
            go_wp2_with (first | ((with_reducible refine gate_dst (N := 16) rfl ?_); refine Kd.R_make (Kd.int .i64) _ 3 rfl (N := 16) rfl 25 _ _ rfl a1 rfl rfl Try.underlying25 (.int .i64 0) 8 info3 rfl uQ uR 0 (ok := fun _ => True) (okp := fun _ => True) rfl (fun _ hk => hk) trivial (of_decide_eq_true uI) (Nat.le_trans (Nat.mul_le_mul_right _ (of_decide_eq_true uI : a1.toNat ≤ 35184372088832)) uR) (Below.refl _ _) (Nat.le_refl _) ?_; intro v111 w8 ho9 hb hg_ hnew_; clear hg_ hnew_; (first | rw [← Ny110.out] at ho9 | (simp only [Int.reduceToNat] at ho9; rw [← Ny110.out] at ho9)); replace HO_110000 := mk0 (Kd.S_elder' (by (with_reducible repeat (first | apply Kd.S_alloc | apply Kd.S_drewN | apply Kd.S_drew)); exact HO_110000.out) (Kd.R_base ho9) hb); have HO112 := mk0 (Kd.R_lower ho9 (below_size uf)); replace BK108 := bK BK108 hb; replace BK109 := bK BK109 hb; replace HB := mk0 (below_step uf hb); clear hb ho9; obtain ⟨Ao10, co10, eo10⟩ := Kd.R_slice HO112.out; subst eo10))
            go_loopg [19] k1 (fun kq v19 w' => ∃ (x9_2 : List Int) (x19_2 : Int), v19 = .int .i64 x19_2 ∧ Aside0 (matrix_made.l1 atf kq a1 x12_1 x9_2 a0 x12_1 (y110.length : Int) x19_2 x110000_1 = some r) ∧ Aside0 (kq ≤ k1) ∧ Aside0 (Kd.R (Kd.int .i64) 3 w' w.heap.size (fun _ => True) (.slice Ao10 y110.length co10) x9_2) ∧ Aside0 (Kd.S (Kd.slice 3 (Kd.int .i64)) 25 w' w.heap.size (fun k_ => some k_ ≠ ((.slice Ao10 y110.length co10) : Value).ownBlock) u110000 x110000_1) ∧ Aside0 (w'.heap[gb108]? = some (.cells #[(.slice none 0 0)] 24 (0, 0))) ∧ Aside0 (w'.heap[gb109]? = some (.cells #[u110000] 24 (0, 0))) ∧ Aside0 (Below w.heap.size w w'))
            case atStart => exact ⟨(y110), (0), uJ, H', ⟨Nat.le_refl _⟩, ⟨by (with_reducible repeat (first | apply Kd.R_alloc | apply Kd.R_drewN | apply Kd.R_drew)); exact HO112.out⟩, ⟨by (with_reducible repeat (first | apply Kd.S_alloc | apply Kd.S_drewN | apply Kd.S_drew)); exact Kd.S_mono HO_110000.out (fun _ hk => hk.2)⟩, ⟨bB BK108.out⟩, ⟨bB BK109.out⟩, ⟨uf⟩⟩
            case round =>
              clear H'
              try clear p2
              try clear c5
              try clear c5b0
              try clear c6
              try clear c6b0
              try clear c6b1
              try clear c7
              try clear c7b0
              try clear c7b1
              try clear p2
              obtain ⟨x9_2, x19_2, rfl, HA, HK2, HO_9, HO_110000, BK108, BK109, HB⟩ := hrel
              have hl9_2 := (Kd.R_reads' HO_9.out).1
              rw [hl9_2] at HO_9
              (try simp only [hl9_2])
              (try simp only [hl9_2] at BK108)
              (try simp only [hl9_2] at BK109)
              (try simp only [hl9_2] at HO_110000)
              cases gk with
              | zero => exact absurd HA.out (by simp [matrix_made.l1])
              | succ k2 =>
                have H := HA.out
                clear HA
                simp only [matrix_made.l1] at H
                by_cases c11 : x19_2 < (y110.length : Int)
                · rw [if_pos c11] at H
                  have c11b0 : decide (x19_2 < (y110.length : Int)) = true := decide_eq_true c11
                  (try (have c11h0 := c11b0; simp only [hl9_2] at c11h0))
                  clear c11
                  replace H := Option.bind_eq_some_iff.mp H
                  obtain ⟨t113, A120, H⟩ := H
                  replace H : (if 0 ≤ x19_2 then (if x19_2 < (x9_2.length : Int) then (matrix_made.l1 atf k2 a1 x12_1 (x9_2.set (x19_2 : Int).toNat t113) a0 x12_1 (y110.length : Int) (wrap64 (x19_2 + 1)) x110000_1) else (none)) else (none)) = some r := H
                  have A12 := Aside0.mk A120
                  clear A120
                  by_cases c13 : 0 ≤ x19_2
                  · rw [if_pos c13] at H
                    have c13b0 : decide (0 ≤ x19_2) = true := decide_eq_true c13
                    (try (have c13h0 := c13b0; simp only [hl9_2] at c13h0))
                    clear c13
                    by_cases c14 : x19_2 < (x9_2.length : Int)
                    · rw [if_pos c14] at H
                      have c14b0 : decide (x19_2 < (x9_2.length : Int)) = true := decide_eq_true c14
                      (try (have c14h0 := c14b0; simp only [hl9_2] at c14h0))
                      clear c14
                      obtain ⟨y114, hy114⟩ : ∃ y_ : List Int, y_ = (x9_2.set (x19_2 : Int).toNat t113) := ⟨_, rfl⟩
                      replace H : (matrix_made.l1 atf k2 a1 x12_1 y114 a0 x12_1 (y110.length : Int) (wrap64 (x19_2 + 1)) x110000_1) = some r := by first | (rw [hy114]; with_reducible exact H) | (have H2_ := (Option.bind_some _ _).symm.trans H; rw [hy114]; with_reducible exact H2_) | (have H2_ := (Option.bind_some _ _).symm.trans H; with_reducible exact H2_) | with_reducible exact H | (rw [hy114]; exact H) | exact H
                      have Ny114 := Aside0.mk hy114
                      clear hy114
                      have H' := Aside0.mk H
                      clear H
                      go_wp2_with (first | ((with_reducible refine gate_dst (N := 27) rfl ?_); refine goesF_ (some 27) rfl rfl Hf.out Hn.out Hb.out (x := .tmp 24) cap #[.int .i64 x12_1, .int .i64 x19_2] rfl rfl (by (try simp only [List.map_toArray, List.map_cons, List.map_nil]); first | done | rfl) ?_; (refine (hat.out x12_1 x19_2 t113 _ (by repeat (first | exact HB.out | apply below_alloc | apply pw_below_drewN | apply below_drew1)) A12.out).mono ?_); rintro e w' ⟨rfl, ⟨nd, rfl⟩⟩; refine ⟨_, rfl, ?_⟩; (try (rw [dSe wr]; generalize hq_ : World.drewN wr _ = wr; have n0_ : Aside0 (Kd.S (Kd.slice 3 (Kd.int .i64)) 25 wr w.heap.size (fun k_ => some k_ ≠ (.slice Ao10 x9_2.length co10 : Value).ownBlock) u110000 x110000_1) := ⟨by rw [← hq_]; exact (by (with_reducible repeat (first | apply Kd.S_alloc | apply Kd.S_drewN | apply Kd.S_drew)); exact HO_110000.out)⟩; have n1_ : Aside0 (Kd.R (Kd.int .i64) 3 wr w.heap.size (fun _ => True) (.slice Ao10 x9_2.length co10) x9_2) := ⟨by rw [← hq_]; exact (by (with_reducible repeat (first | apply Kd.R_alloc | apply Kd.R_drewN | apply Kd.R_drew)); exact HO_9.out)⟩; have n2_ : Aside0 (wr.heap[gb108]? = some (.cells #[.slice none 0 0] 24 (0, 0))) := ⟨by rw [← hq_]; exact (bB BK108.out)⟩; have n3_ : Aside0 (wr.heap[gb109]? = some (.cells #[u110000] 24 (0, 0))) := ⟨by rw [← hq_]; exact (bB BK109.out)⟩; have n4_ : Aside0 (Below w.heap.size w wr) := ⟨by rw [← hq_]; exact uf⟩; clear HO_110000 HO_9 BK108 BK109 HB hq_; have HO_110000 := n0_; have HO_9 := n1_; have BK108 := n2_; have BK109 := n3_; have HB := n4_; clear n0_ n1_ n2_ n3_ n4_)); have p15 : 0 ≤ (x19_2 : Int) := of_decide_eq_true uI; have q15 : (x19_2 : Int) < ((x9_2.length : Int) : Int) := of_decide_eq_true uI; obtain ⟨go15, co15, eo15, gb15, gl15, cl15, HG15⟩ := Kd.R_form HO_9.out uR; (first | cases eo15 | (injection eo15 with ea_ en_ ec_; (first | subst ea_ | (injection ea_ with ea_; subst ea_)); subst ec_; clear en_)); have GB15 := Aside0.mk gb15; have GG15 := Aside0.mk HG15; clear gb15 gl15 HG15; obtain ⟨hx15_0, hf15_0⟩ := Kd.R_celln 0 HO_9.out (x19_2 : Int) p15 q15; replace p15 := eq_true p15; replace q15 := eq_true q15; obtain ⟨hy16_, hz16_⟩ := Kd.R_celln 0 HO_9.out (x19_2 : Int) (of_decide_eq_true uI) (of_decide_eq_true uI); have HP16 := Kd.R_putg HO_9.out (x19_2 : Int) t113) | ((with_reducible refine gate_store (t := 3) (p := 28) rfl ?_); refine store_event (t := 3) (p := 28) (v := ?vo_w17) (w1 := (wr.setCell ⟨go15, (x19_2 : Int).toNat, none⟩ (.int .i64 t113))) ?hg ?ho ?hn ?hr ?_; (case ho => rfl); (case hg => rfl); (case hn => rfl); (case hr => first | (go_simp; done) | (go_simp; rfl)); intro w17 hw; have hg : wr.grownBy w17 (some go15) := (by rw [hw]; exact HP16.2); have hp_ : Kd.R (Kd.int .i64) 3 w17 w.heap.size (fun _ => True) (.slice (some ⟨go15, 0, none⟩) x9_2.length co10) y114 := (by rw [hw, Ny114.out]; exact HP16.1); clear HP16; replace HO_110000 := mk0 (Kd.S_after (v := (.slice (some ⟨go15, 0, none⟩) x9_2.length co10)) (v1 := (.slice (some ⟨go15, 0, none⟩) x9_2.length co10)) (ok := (fun _ => True)) (by (with_reducible repeat (first | apply Kd.S_alloc | apply Kd.S_drewN | apply Kd.S_drew)); exact Kd.S_mono HO_110000.out (fun _ hk => ⟨trivial, hk⟩)) hg (.inl rfl)); replace BK108 := mk0 (blk_grown (g := gb108) (o := .cells #[.slice none 0 0] 24 (0, 0)) (bB BK108.out) hg (Kd.R_ne HO_9.out BK108.out uQ)); replace BK109 := mk0 (blk_grown (g := gb109) (o := .cells #[u110000] 24 (0, 0)) (bB BK109.out) hg (Kd.R_ne HO_9.out BK109.out uQ)); replace HO_9 := mk0 (hp_); replace HB := mk0 ((by rw [hw]; exact below_set (HB.out) GB15.out : Below w.heap.size w w17)); clear hg hw hp_))
                      (try simp only [← hl9_2])
                      go_roundg k2
                      case measure => have := HK1.out; have := HK2.out; omega
                      case rel => exact ⟨(y114), (wrap64 (x19_2 + 1)), uJ, H', ⟨by have := HK1.out; have := HK2.out; omega⟩, ⟨by (try simp only [hl9_2]); (with_reducible repeat (first | apply Kd.R_alloc | apply Kd.R_drewN | apply Kd.R_drew)); exact HO_9.out⟩, ⟨by (try simp only [hl9_2]); (with_reducible repeat (first | apply Kd.S_alloc | apply Kd.S_drewN | apply Kd.S_drew)); exact Kd.S_mono HO_110000.out (fun _ hk => hk.2)⟩, ⟨by (try simp only [hl9_2]); refine bB ?_; exact BK108.out⟩, ⟨by (try simp only [hl9_2]); refine bB ?_; exact BK109.out⟩, ⟨uf⟩⟩
                    · rw [if_neg c14] at H
                      exact absurd H uS
                  · rw [if_neg c13] at H
                    exact absurd H uS
                · rw [if_neg c11] at H
                  have c11b0 : decide (x19_2 < (y110.length : Int)) = false := decide_eq_false c11
                  (try (have c11h0 := c11b0; simp only [hl9_2] at c11h0))
                  clear c11
                  by_cases c18 : x110000_1.length < 5864062014805
                  · rw [if_pos c18] at H
                    have LMc18 := Aside0.mk c18
                    clear c18
                    obtain ⟨y115, hy115⟩ : ∃ y_ : List (List Int), y_ = (x110000_1 ++ [x9_2]) := ⟨_, rfl⟩
                    replace H : (matrix_made.l0 atf k2 a1 a0 (wrap64 (x12_1 + 1)) y115) = some r := by first | (rw [hy115]; with_reducible exact H) | (have H2_ := (Option.bind_some _ _).symm.trans H; rw [hy115]; with_reducible exact H2_) | (have H2_ := (Option.bind_some _ _).symm.trans H; with_reducible exact H2_) | with_reducible exact H | (rw [hy115]; exact H) | exact H
                    have Ny115 := Aside0.mk hy115
                    clear hy115
                    have H' := Aside0.mk H
                    clear H
                    have hnb19 := NB109_108.out
                    have hnc19 := NB108_109.out
                    have hcz20_0 : wr.cell? ⟨gb109, 0, none⟩ = some (u110000) := (blk_cell BK109.out 0).trans rfl
                    have hfz20_0 := blk_frozen BK109.out 0
                    go_wp2_with (first | ((with_reducible refine gBu (b := .append) (xs := #[.tmp 31, .tmp 33]) rfl ?_); at_builtin; refine Kd.S_append (Kd.slice 3 (Kd.int .i64)) (w0 := w) w.heap.size rfl (.tmp 31) (.tmp 33) 22 25 (.slice none 0 0) 24 rfl Try.underlying22 info25 rfl uQ uR u110000 x110000_1 x9_2 [.slice Ao10 x9_2.length co10] (fun _ => True) (fun k_ => some k_ = (.slice Ao10 x9_2.length co10 : Value).ownBlock) rfl rfl ?aP (fun k_ hk_ => ((Kd.R_mono (ok' := fun k_ => ((fun _ => True)) k_ ∧ some k_ ≠ (u110000 : Value).ownBlock) (Kd.R_apart' (HO_9.out) (Kd.S_typed HO_110000.out) uQ) (fun k_ hk => ⟨trivial, hk.2⟩))).1 k_ hk_.symm) ?aF ?aO ?aB ?aS ?aL ?_; (case aP => exact Kd.M_row (Kd.R_mono (Kd.R_tight rfl (Kd.R_mono (ok' := fun k_ => ((fun _ => True)) k_ ∧ some k_ ≠ (u110000 : Value).ownBlock) (Kd.R_apart' (HO_9.out) (Kd.S_typed HO_110000.out) uQ) (fun k_ hk => ⟨trivial, hk.2⟩))) (fun _ h_ => h_))); (case aB => exact uf); (case aF => exact (fun _ _ => trivial)); (case aO => exact (by (with_reducible repeat (first | apply Kd.S_alloc | apply Kd.S_drewN | apply Kd.S_drew)); exact Kd.S_mono HO_110000.out (fun k_ hk => ⟨trivial, fun e_ => hk e_⟩))); (case aS => exact (below_size uf)); (case aL => have := LMc18.out; omega); intro v116 w21 ho hb hg hat; rw [← Ny115.out] at ho; replace BK108 := mk0 (blk_grown (g := gb108) (o := .cells #[.slice none 0 0] 24 (0, 0)) (bB BK108.out) hg (Kd.S_ne HO_110000.out BK108.out uQ)); replace BK109 := mk0 (blk_grown (g := gb109) (o := .cells #[u110000] 24 (0, 0)) (bB BK109.out) hg (Kd.S_ne HO_110000.out BK109.out uQ)); replace HB := mk0 (hb); have HO117 := mk0 (ho); clear HO_110000 HO_9; clear ho hb hg hat; obtain ⟨Ao22, co22, eo22⟩ := Kd.S_slice HO117.out; subst eo22; have hcz23_0 : w21.cell? ⟨gb109, 0, none⟩ = some (u110000) := (blk_cell BK109.out 0).trans rfl; have hfz23_0 := blk_frozen BK109.out 0))
                    (try simp only [← hl9_2])
                    go_roundg k2
                    case measure => have := HK1.out; have := HK2.out; omega
                    case rel => exact ⟨(wrap64 (x12_1 + 1)), (y115), (.slice Ao22 y115.length co22), uJ, H', ⟨by have := HK1.out; have := HK2.out; omega⟩, ⟨by (try simp only [hl9_2]); (with_reducible repeat (first | apply Kd.S_alloc | apply Kd.S_drewN | apply Kd.S_drew)); exact Kd.S_mono (Kd.S_far (p := ⟨gb109, 0, none⟩) (Kd.S_types HO117.out BK109.out uQ) (fun _ hk => hk.2) (.slice Ao22 y115.length co22)) (fun _ hk => trivial)⟩, ⟨by (try simp only [hl9_2]); refine bB ?_; refine blk_far ?_ NB108_109.out _; refine bB ?_; exact BK108.out⟩, ⟨by (try simp only [hl9_2]); refine bB ?_; refine blk_put (cs := #[u110000]) ?_ 0 _ rfl; refine bB ?_; exact BK109.out⟩, ⟨uf⟩⟩
                  · rw [if_neg c18] at H
                    exact absurd H uS
          · rw [if_neg c7] at H
            exact absurd H uS
        · rw [if_neg c6] at H
          exact absurd H uS
      · rw [if_neg c5] at H
        have c5b0 : decide (x12_1 < a0) = false := decide_eq_false c5
        clear c5
        obtain rfl := Option.some.inj H
        have hnb24 := NB109_108.out
        have hnc24 := NB108_109.out
        have hcz25_0 : wr.cell? ⟨gb109, 0, none⟩ = some (u110000) := (blk_cell BK109.out 0).trans rfl
        have hfz25_0 := blk_frozen BK109.out 0
        obtain ⟨Ao26, co26, eo26⟩ := Kd.S_slice HO_110000.out
        subst eo26
        have hcz27_0 : wr.cell? ⟨gb108, 0, none⟩ = some (.slice none 0 0) := (blk_cell BK108.out 0).trans rfl
        have hfz27_0 := blk_frozen BK108.out 0
        go_wp2
        refine bodyPost_ret (results_cell_row rfl _ _ gb108 24 #[.slice Ao26 x110000_1.length co26] (0, 0) _ rfl (by refine bB ?_; refine blk_put (cs := #[.slice none 0 0]) ?_ 0 _ rfl; refine bB ?_; exact BK108.out) Try.underlying24 rfl uP) rfl ?_
        exact ⟨_, uD, by (with_reducible repeat (first | apply Kd.S_alloc | apply Kd.S_drewN | apply Kd.S_drew)); exact Kd.S_mono (Kd.S_far (p := ⟨gb108, 0, none⟩) (Kd.S_types HO_110000.out BK108.out uQ) (fun _ hk => hk.2) (.slice Ao26 x110000_1.length co26)) (fun _ hk => trivial), uf⟩
end Go.Proofs.Ytaahnicjjpddjaa.MadeW
