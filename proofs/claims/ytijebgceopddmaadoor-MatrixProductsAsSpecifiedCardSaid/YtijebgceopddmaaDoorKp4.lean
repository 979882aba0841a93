/- Parts of the proof, laid together by a program of this session: Pa5, Pa6, Pa7, Pa8, AxSpec, AxStep, AxTy, AxSane. -/
import Derived.Test.YtijebgceopddmaaDoorKp2
import Derived.Test.YtijebgceopddmaaDoorKp3
import Derived.Test.YtijebgceopddmaaDoorKp0
import Derived.Test.YtijebgceopddmaaDoorProg
set_option linter.unusedVariables false
set_option linter.unusedSimpArgs false
section
namespace Go.Proofs.YtijebgceopddmaaDoor.Pa
open Go.RowKit Go.Proofs.YtijebgceopddmaaDoor.Gf Go.Proofs.YtijebgceopddmaaDoor.Pr Go.Proofs.YtijebgceopddmaaDoorW.PrintWords Go.Proofs.YtijebgceopddmaaDoorW.PrintLast Go.Proofs.YtijebgceopddmaaDoorW.PrintMore
attribute [local go_sem] max2_int min2_int max_two min_two max_three min_three max_four min_four   -- for this text's walks alone
set_option linter.unusedVariables false
set_option linter.unusedSimpArgs false
def matrix_Express.j0 : Nat → List Int → List (List Int) → Option (List Int × Int)
 | 0, _, _ => none
 | k + 1, x1, x195000 => (grid_46.f (x1.length : Int) (x195000.length : Int) x195000).bind fun t197 => ((matrix_solve.f k t197 x1 (x195000.length : Int)).bind fun bt200 => (if bt200.2.2 = true then (some (bt200.1, 0)) else (some (([] : List Int), 8))))
def matrix_Express.f (k : Nat) (l0 : List (List Int)) (l1 : List Int) : Option (List Int × Int) := (matrix_Check.f k l0).bind fun t195 => (if t195 = 0 then (if (l1.length : Int) > 48 then (some (([] : List Int), 2)) else (if (l0.length : Int) > 0 then ((matrix_columns.f l0).bind fun t196 => (if (l1.length : Int) = t196 then (matrix_Express.j0 k l1 l0) else (some (([] : List Int), 1)))) else (matrix_Express.j0 k l1 l0))) else (some (([] : List Int), t195)))
theorem matrix_Express.mono_l : ∀ k, (∀ y0 y1, LeO (matrix_Express.j0 k y0 y1) (matrix_Express.j0 (k + 1) y0 y1))
 | 0 => fun _ _ r h => by simp [matrix_Express.j0] at h
 | k + 1 => by
  have ih0 := matrix_Express.mono_l k
  ·intro y0 y1
   unfold matrix_Express.j0
   repeat' first
   | (with_reducible exact ih0 _ _)
   | (with_reducible exact matrix_Check.mono _ _)
   | (with_reducible exact matrix_solve.mono _ _ _ _)
   | (with_reducible exact LeO.refl _)
   | (with_reducible exact LeO.none _)
   | (with_reducible refine LeO.ite ?_ ?_)
   | (with_reducible refine LeO.bind ?_ (fun _ => ?_))
   | exact ih0 _ _
   | exact matrix_Check.mono _ _
   | exact matrix_solve.mono _ _ _ _
   | exact LeO.none _
   | refine LeO.ite ?_ ?_
   | refine LeO.bind ?_ (fun _ => ?_)
theorem matrix_Express.mono : ∀ a0 a1 k, LeO (matrix_Express.f k a0 a1) (matrix_Express.f (k + 1) a0 a1) := by
 intro a0 a1 k
 have ih0 := matrix_Express.mono_l k
 unfold matrix_Express.f
 repeat' first
   | (with_reducible exact ih0 _ _)
   | (with_reducible exact matrix_Check.mono _ _)
   | (with_reducible exact matrix_solve.mono _ _ _ _)
   | (with_reducible exact LeO.refl _)
   | (with_reducible exact LeO.none _)
   | (with_reducible refine LeO.ite ?_ ?_)
   | (with_reducible refine LeO.bind ?_ (fun _ => ?_))
   | exact ih0 _ _
   | exact matrix_Check.mono _ _
   | exact matrix_solve.mono _ _ _ _
   | exact LeO.none _
   | refine LeO.ite ?_ ?_
   | refine LeO.bind ?_ (fun _ => ?_)
def matrix_Express.T8 : Bool × List (List Nat × List Nat) := (true, [([], []), ([0], [0]), ([], []), ([2], [2]), ([], []), ([1, 3, 4], [1, 3, 4]), ([], []), ([], []), ([7], [7]), ([5, 6, 8, 5], [5, 6, 8]), ([9], [9]), ([10], [10]), ([10], [10]), ([10], [10]), ([11, 9, 0, 1, 2, 3, 4, 5, 6, 7, 8, 9, 10, 11], [11]), ([12, 14, 0, 1, 2, 3, 4, 5, 6, 7, 8, 9, 10, 11, 12, 14], [12]), ([13, 15, 0, 1, 2, 3, 4, 5, 6, 7, 8, 9, 10, 11, 12, 13, 14, 15], [13])])
def matrix_Express.B8 : List Nat := [0, 1, 0, 4, 0, 31, 0, 0, 128, 511, 1023, 2047, 2047, 2047, 4095, 24575, 65535]
theorem matrix_Express.tab8 : rtab .any (opsOf Tryd.f25 8) = matrix_Express.T8 := by kernel_rfl
theorem matrix_Express.bits8 : waitsOk matrix_Express.T8.2 matrix_Express.B8 = true := by kernel_rfl
set_option maxHeartbeats 8000000 in
set_option maxRecDepth 100000 in
theorem matrix_Express.calls (k : Nat) (A0 : Option Addr) (c0 : Nat) (l0 : List (List Int)) (A1 : Option Addr) (c1 : Nat) (l1 : List Int) (r1 : List Int) (r2 : Int) (w : World) (hG : HighIn w) (hr0 : Kd.C (Kd.slice 5 (Kd.int .u8)) w A0 l0.length l0) (hc0 : l0.length ≤ c0) (hr1 : Kd.C (Kd.int .u8) w A1 l1.length l1) (hc1 : l1.length ≤ c1) (h : matrix_Express.f k l0 l1 = some (r1, r2)) :
  Calls Tryd.prog 25 #[.slice A0 l0.length c0, .slice A1 l1.length c1] w fun e w' => ∃ v0_ : Value, e = .returned (.tuple #[v0_, .int .i64 r2]) ∧ Kd.R (Kd.int .u8) 5 w' w.heap.size (fun _ => True) v0_ r1 ∧ Below w.heap.size w w' := by
 have hmf : ∀ (fn : Fn) (first cap : Array Value) (w : World), (Instr.makeFunc fn first cap).run Tryd.prog w = .ok (.func fn first cap) w := fun _ _ _ _ => rfl
 have HG := Aside0.mk hG
 clear hG
 have HR0 := Aside0.mk hr0
 have HC0 := Aside0.mk hc0
 clear hr0 hc0
 have HR1 := Aside0.mk hr1
 have HC1 := Aside0.mk hc1
 clear hr1 hc1
 have HB := Aside0.mk (Below.refl w.heap.size w)
 have H : ((matrix_Check.f k l0).bind fun t195 => (if t195 = 0 then (if (l1.length : Int) > 48 then (some (([] : List Int), 2)) else (if (l0.length : Int) > 0 then ((matrix_columns.f l0).bind fun t196 => (if (l1.length : Int) = t196 then (matrix_Express.j0 k l1 l0) else (some (([] : List Int), 1)))) else (matrix_Express.j0 k l1 l0))) else (some (([] : List Int), t195)))) = some (r1, r2) := h
 clear h
 replace H := Option.bind_eq_some_iff.mp H
 obtain ⟨t195, A30, H⟩ := H
 replace H : (if t195 = 0 then (if (l1.length : Int) > 48 then (some (([] : List Int), 2)) else (if (l0.length : Int) > 0 then ((matrix_columns.f l0).bind fun t196 => (if (l1.length : Int) = t196 then (matrix_Express.j0 k l1 l0) else (some (([] : List Int), 1)))) else (matrix_Express.j0 k l1 l0))) else (some (([] : List Int), t195))) = some (r1, r2) := H
 have A3 := Aside0.mk A30
 clear A30
 by_cases c4 : t195 = 0
 ·rw [if_pos c4] at H
  have c4b0 : (t195 == 0) = true := beq_iff_eq.mpr c4
  have c4b1 : (t195 != 0) = false := bne_eq_false_iff_eq.mpr c4
  clear c4
  have HC5 := Aside0.mk H
  clear H
  go_enter Tryd.func25, Tryd.ntmps25
  go_upto_block 0 with (first | ((with_reducible refine gate_dst (N := 2) rfl ?_); (try (refine gate_guard (by rfl) ?_; dsimp only)); refine box_event ?hg (N := 2) ?hd (cs := #[.slice A0 l0.length c0]) (t := 22) ?hr ?_; (case hd => rfl); (case hg => rfl); (case hr => first | (go_simp; done) | (go_simp; rfl)); intro gb194 hg w6 hbox hb; have n0_ := Aside0.mk (below_step (by repeat (first | (with_reducible first | exact HB.out | apply below_alloc | apply pw_below_drewN | apply below_drew1) | exact HB.out)) hb); have n1_ := Aside0.mk (hbox); have n2_ := Aside0.mk ((by rw [hg]; exact (below_size (by repeat (first | (with_reducible first | exact HB.out | apply below_alloc | apply pw_below_drewN | apply below_drew1) | exact HB.out))) : w.heap.size ≤ gb194)); have n3_ := Aside0.mk ((by rw [hg]; exact (below_size (by repeat (first | (with_reducible first | exact HB.out | apply below_alloc | apply pw_below_drewN | apply below_drew1) | exact HB.out))) : w.heap.size ≤ gb194)); clear HB; have HB := n0_; have BK194 := n1_; have GW194 := n2_; have GE194 := n3_; clear n0_ n1_ n2_ n3_; clear hb hbox hg; have hcz7_0 : w6.cell? ⟨gb194, 0, none⟩ = some (.slice A0 l0.length c0) := (blk_cell BK194.out 0).trans rfl; have hfz7_0 := blk_frozen BK194.out 0) | ((with_reducible refine gate_callee (f := 16) rfl ?_); refine goesL_ (some 11) rfl rfl Tryd.func16 (by kernel_rfl) rfl #[.slice A0 l0.length c0] rfl (by (try simp only [List.map_toArray, List.map_cons, List.map_nil]); first | done | rfl | (simp only [List.length_drop, List.length_take]; rfl)) ?_; (with_reducible refine (matrix_Check.calls k _ _ l0 t195 _ ?side1 ?side2 A3.out).mono ?_); (case side1 => repeat (first | exact (Kd.C_below HR0.out HB.out) | (with_reducible refine Kd.C_alloc ?_ _) | (with_reducible refine Kd.C_drewN ?_ _) | (with_reducible refine Kd.C_drew ?_))); (case side2 => exact HC0.out); rintro e w' ⟨rfl, ⟨nd, rfl⟩⟩; refine ⟨_, rfl, ?_⟩))
  (try simp only [Act.put, List.setIfInBounds_toArray, List.set_cons_zero, List.set_cons_succ])
  go_cut [] (fun wc => ∃ (kq : Nat), Aside0 (matrix_Express.j0 kq l1 l0 = some (r1, r2)) ∧ Aside0 (kq ≤ k) ∧ Aside0 (wc.heap[gb194]? = some (.cells #[(.slice A0 l0.length c0)] 22 (0, 0))) ∧ Aside0 (Below w.heap.size w wc))
  case first =>
   have H := HC5.out
   clear HC5
   by_cases c8 : (l1.length : Int) > 48
   ·rw [if_pos c8] at H
    have c8b0 : decide (48 < (l1.length : Int)) = true := decide_eq_true c8
    have c8b1 : decide (48 < l1.length) = true := decide_eq_true (by omega)
    clear c8
    (first | rw [c8b0] | (simp only [i64_w, i32_w]; rw [c8b0]) | skip)
    simp only [Option.some.injEq, Prod.mk.injEq] at H
    obtain ⟨rfl, rfl⟩ := H
    go_wp2
    go_ret2
    exact ⟨_, by first | rfl | (simp [errW_none, errW_some] <;> rfl) | (simp [*, errW_none, errW_some] <;> rfl), by first | exact Kd.R_nil _ _ _ _ _ | exact Kd.N_nil _ _ _ _ _ | exact Kd.V_nil _ _ _ _ _ | exact Kd.Q_nil _ _ _ _ _ | exact Kd.S_nil _ _ _ _ _, by repeat (first | (with_reducible first | exact HB.out | apply below_alloc | apply pw_below_drewN | apply below_drew1 | refine below_set ?_ GE194.out) | exact HB.out)⟩
   ·rw [if_neg c8] at H
    have c8b0 : decide (48 < (l1.length : Int)) = false := decide_eq_false c8
    have c8b1 : decide (48 < l1.length) = false := decide_eq_false (by omega)
    clear c8
    (first | rw [c8b0] | (simp only [i64_w, i32_w]; rw [c8b0]) | skip)
    by_cases c9 : (l0.length : Int) > 0
    ·rw [if_pos c9] at H
     have c9b0 : decide (0 < (l0.length : Int)) = true := decide_eq_true c9
     have c9b1 : decide (0 < l0.length) = true := decide_eq_true (by omega)
     clear c9
     replace H := Option.bind_eq_some_iff.mp H
     obtain ⟨t196, A100, H⟩ := H
     replace H : (if (l1.length : Int) = t196 then (matrix_Express.j0 k l1 l0) else (some (([] : List Int), 1))) = some (r1, r2) := H
     have A10 := Aside0.mk A100
     clear A100
     by_cases c11 : (l1.length : Int) = t196
     ·rw [if_pos c11] at H
      have c11b0 : ((l1.length : Int) == t196) = true := beq_iff_eq.mpr c11
      have c11b1 : ((l1.length : Int) != t196) = false := bne_eq_false_iff_eq.mpr c11
      clear c11
      have H' := Aside0.mk H
      clear H
      have hcz12_0 : w6.cell? ⟨gb194, 0, none⟩ = some (.slice A0 l0.length c0) := (blk_cell BK194.out 0).trans rfl
      have hfz12_0 := blk_frozen BK194.out 0
      go_wp2_with (first | (go_at_call 36; (with_reducible refine (matrix_columns.calls _ _ l0 t196 _ ?side1 ?side2 A10.out).mono ?_); (case side1 => repeat (first | exact (Kd.C_below HR0.out HB.out) | (with_reducible refine Kd.C_alloc ?_ _) | (with_reducible refine Kd.C_drewN ?_ _) | (with_reducible refine Kd.C_drew ?_))); (case side2 => exact HC0.out); rintro e w' ⟨rfl, ⟨nd, rfl⟩⟩))
      go_meet
      case rel => exact ⟨_, H', ⟨by first | omega | exact Nat.le_refl _⟩, ⟨by (with_reducible repeat (first | refine blk_drewN ?_ _ | refine blk_drew ?_ | refine blk_alloc ?_ _)); exact BK194.out⟩, ⟨by repeat (first | (with_reducible first | exact HB.out | apply below_alloc | apply pw_below_drewN | apply below_drew1 | refine below_set ?_ GE194.out) | exact HB.out)⟩⟩
     ·rw [if_neg c11] at H
      have c11b0 : ((l1.length : Int) == t196) = false := beq_eq_false_iff_ne.mpr c11
      have c11b1 : ((l1.length : Int) != t196) = true := bne_iff_ne.mpr c11
      simp only [Option.some.injEq, Prod.mk.injEq] at H
      obtain ⟨rfl, rfl⟩ := H
      have hcz13_0 : w6.cell? ⟨gb194, 0, none⟩ = some (.slice A0 l0.length c0) := (blk_cell BK194.out 0).trans rfl
      have hfz13_0 := blk_frozen BK194.out 0
      go_wp2_with (first | (go_at_call 36; (with_reducible refine (matrix_columns.calls _ _ l0 t196 _ ?side1 ?side2 A10.out).mono ?_); (case side1 => repeat (first | exact (Kd.C_below HR0.out HB.out) | (with_reducible refine Kd.C_alloc ?_ _) | (with_reducible refine Kd.C_drewN ?_ _) | (with_reducible refine Kd.C_drew ?_))); (case side2 => exact HC0.out); rintro e w' ⟨rfl, ⟨nd, rfl⟩⟩))
      go_ret2
      exact ⟨_, by first | rfl | (simp [errW_none, errW_some] <;> rfl) | (simp [*, errW_none, errW_some] <;> rfl), by first | exact Kd.R_nil _ _ _ _ _ | exact Kd.N_nil _ _ _ _ _ | exact Kd.V_nil _ _ _ _ _ | exact Kd.Q_nil _ _ _ _ _ | exact Kd.S_nil _ _ _ _ _, by repeat (first | (with_reducible first | exact HB.out | apply below_alloc | apply pw_below_drewN | apply below_drew1 | refine below_set ?_ GE194.out) | exact HB.out)⟩
    ·rw [if_neg c9] at H
     have c9b0 : decide (0 < (l0.length : Int)) = false := decide_eq_false c9
     have c9b1 : decide (0 < l0.length) = false := decide_eq_false (by omega)
     clear c9
     have H' := Aside0.mk H
     clear H
     have hcz14_0 : w6.cell? ⟨gb194, 0, none⟩ = some (.slice A0 l0.length c0) := (blk_cell BK194.out 0).trans rfl
     have hfz14_0 := blk_frozen BK194.out 0
     go_wp2
     go_meet
     case rel => exact ⟨_, H', ⟨by first | omega | exact Nat.le_refl _⟩, ⟨by (with_reducible repeat (first | refine blk_drewN ?_ _ | refine blk_drew ?_ | refine blk_alloc ?_ _)); exact BK194.out⟩, ⟨by repeat (first | (with_reducible first | exact HB.out | apply below_alloc | apply pw_below_drewN | apply below_drew1 | refine below_set ?_ GE194.out) | exact HB.out)⟩⟩
  case rest =>
   clear HC5
   try clear c1
   try clear c2
   try clear p2
   try clear c4
   try clear c4b0
   try clear c4b1
   try clear c8
   try clear c8b0
   try clear c8b1
   try clear c9
   try clear c9b0
   try clear c9b1
   try clear c11
   try clear c11b0
   try clear c11b1
   try clear hcz12_0
   try clear hcz13_0
   try clear hcz14_0
   try clear hcz7_0
   try clear hfz12_0
   try clear hfz13_0
   try clear hfz14_0
   try clear hfz7_0
   obtain ⟨kq, HA, HJ4, BK194, HB⟩ := hcut
   cases kq with
   | zero => exact absurd HA.out (by simp [matrix_Express.j0])
   | succ kj4 =>
    have H := HA.out
    clear HA
    simp only [matrix_Express.j0] at H
    replace H := Option.bind_eq_some_iff.mp H
    obtain ⟨t197, A150, H⟩ := H
    replace H : ((matrix_solve.f kj4 t197 l1 (l0.length : Int)).bind fun bt200 => (if bt200.2.2 = true then (some (bt200.1, 0)) else (some (([] : List Int), 8)))) = some (r1, r2) := H
    have A15 := Aside0.mk A150
    clear A150
    replace H := Option.bind_eq_some_iff.mp H
    obtain ⟨⟨t200, t201, t202⟩, A160, H⟩ := H
    replace H : (if t202 = true then (some (t200, 0)) else (some (([] : List Int), 8))) = some (r1, r2) := H
    have A16 := Aside0.mk A160
    clear A160
    by_cases c17 : t202 = true
    ·subst c17
     have H1 : (some (t200, 0)) = some (r1, r2) := by rw [if_pos rfl] at H; exact H
     clear H
     have H := H1
     clear H1
     simp only [Option.some.injEq, Prod.mk.injEq] at H
     obtain ⟨rfl, rfl⟩ := H
     try go_wp2
     have n0_ := Aside0.mk (blk_drew BK194.out)
     have n1_ := Aside0.mk (below_drew1 HB.out)
     clear BK194
     clear HB
     have BK194 := n0_
     have HB := n1_
     clear n0_ n1_
     refine start_ (n := 17) (S := fun w' => w'.cell? ⟨gb194, 0, none⟩ = some (.slice A0 l0.length c0)) (ds := []) #[false, false, false, false, false, false, false, false, false, false, false, false, false, false, false, false, false] (by kernel_rfl) rfl rfl ((blk_cell BK194.out 0).trans rfl) (fun hHeld => ?_); refine with_tabW matrix_Express.tab8 matrix_Express.bits8 (fun HT_ HW_ => ?_)
     generalize wc.drew = w18 at BK194 HB hHeld ⊢
     refine pure_ (i := 0) (N := some 31) (v := ?_) (a' := ?_) #[true, false, false, false, false, false, false, false, false, false, false, false, false, false, false, false, false] rfl rfl (any_of HT_.out (by kernel_rfl)) (fun _ _ _ h => h) (Or.inl ⟨by rfl, ?_⟩) ?_ ?_
     rotate_left
     ·intro w'
      go_simp
      with_reducible rfl
     rotate_left
     ·simp only [Act.put, List.setIfInBounds_toArray, List.set_cons_zero, List.set_cons_succ, i64_w, i32_w]
      rfl
     refine pure_ (i := 1) (N := some 32) (v := ?_) (a' := ?_) #[true, true, false, false, false, false, false, false, false, false, false, false, false, false, false, false, false] rfl rfl (any_of HT_.out (by kernel_rfl)) (fun _ _ _ h => h) (Or.inl ⟨by rfl, ?_⟩) ?_ ?_
     rotate_left
     ·intro w'
      go_simp
      with_reducible rfl
     rotate_left
     ·simp only [Act.put, List.setIfInBounds_toArray, List.set_cons_zero, List.set_cons_succ, i64_w, i32_w]
      rfl
     refine pure_ (i := 4) (N := some 35) (v := ?_) (a' := ?_) #[true, true, false, false, true, false, false, false, false, false, false, false, false, false, false, false, false] rfl rfl (any_of HT_.out (by kernel_rfl)) (fun _ _ _ h => h) (Or.inl ⟨by rfl, ?_⟩) ?_ ?_
     rotate_left
     ·intro w'
      go_simp
      with_reducible rfl
     rotate_left
     ·simp only [Act.put, List.setIfInBounds_toArray, List.set_cons_zero, List.set_cons_succ, i64_w, i32_w]
      rfl
     refine pure_ (i := 6) (N := some 37) (v := ?_) (a' := ?_) #[true, true, false, false, true, false, true, false, false, false, false, false, false, false, false, false, false] rfl rfl (any_of HT_.out (by kernel_rfl)) (fun _ _ _ h => h) (Or.inl ⟨by rfl, ?_⟩) ?_ ?_
     rotate_left
     ·intro w'
      go_simp
      with_reducible rfl
     rotate_left
     ·simp only [Act.put, List.setIfInBounds_toArray, List.set_cons_zero, List.set_cons_succ, i64_w, i32_w]
      rfl
     refine take_ (i := 2) (N := some 33) (v := ?_) (a' := ?_) #[true, true, true, false, true, false, true, false, false, false, false, false, false, false, false, false, false] rfl rfl (take_ofW HT_.out HW_.out (by kernel_rfl)) (fun _ _ _ h => h) (Or.inl ⟨by rfl, ?_⟩) hHeld ?_ ?_
     rotate_left
     ·intro w' s0
      (try simp only [Int.toNat_natCast] at s0)
      go_simp
      with_reducible rfl
     rotate_left
     ·simp only [Act.put, List.setIfInBounds_toArray, List.set_cons_zero, List.set_cons_succ, i64_w, i32_w]
      rfl
     refine pure_ (i := 3) (N := some 34) (v := ?_) (a' := ?_) #[true, true, true, true, true, false, true, false, false, false, false, false, false, false, false, false, false] rfl rfl (any_of HT_.out (by kernel_rfl)) (fun _ _ _ h => h) (Or.inl ⟨by rfl, ?_⟩) ?_ ?_
     rotate_left
     ·intro w'
      go_simp
      with_reducible rfl
     rotate_left
     ·simp only [Act.put, List.setIfInBounds_toArray, List.set_cons_zero, List.set_cons_succ, i64_w, i32_w]
      rfl
     refine take_ (i := 7) (N := some 38) (v := ?_) (a' := ?_) #[true, true, true, true, true, false, true, true, false, false, false, false, false, false, false, false, false] rfl rfl (take_ofW HT_.out HW_.out (by kernel_rfl)) (fun _ _ _ h => h) (Or.inl ⟨by rfl, ?_⟩) hHeld ?_ ?_
     rotate_left
     ·intro w' s0
      (try simp only [Int.toNat_natCast] at s0)
      go_simp
      with_reducible rfl
     rotate_left
     ·simp only [Act.put, List.setIfInBounds_toArray, List.set_cons_zero, List.set_cons_succ, i64_w, i32_w]
      rfl
     refine pure_ (i := 8) (N := some 39) (v := ?_) (a' := ?_) #[true, true, true, true, true, false, true, true, true, false, false, false, false, false, false, false, false] rfl rfl (any_of HT_.out (by kernel_rfl)) (fun _ _ _ h => h) (Or.inl ⟨by rfl, ?_⟩) ?_ ?_
     rotate_left
     ·intro w'
      go_simp
      with_reducible rfl
     rotate_left
     ·simp only [Act.put, List.setIfInBounds_toArray, List.set_cons_zero, List.set_cons_succ, i64_w, i32_w]
      rfl
     refine one_ (i := 5) (N := some 36) #[true, true, true, true, true, true, true, true, true, false, false, false, false, false, false, false, false] rfl rfl (one_of HT_.out (by kernel_rfl)) (by decide) (fun K hK => ?_)
     refine goes_ Tryd.func35 (by kernel_rfl) rfl #[.int .i64 (l1.length : Int), .int .i64 (l0.length : Int), .func (.func 46) #[] #[.pointer (some ⟨gb194, 0, none⟩)]] (by rfl) rfl rfl (by (try simp only [List.map_toArray, List.map_cons, List.map_nil]); first | done | rfl | (simp only [List.length_drop, List.length_take]; rfl)) ?_
     with_reducible refine (grid_46.calls gb194 (l1.length : Int) (l0.length : Int) A0 c0 l0 t197 _ ?side1 ?side2 ?side3 A15.out).mono ?_
     (case side1 => (with_reducible repeat (first | refine blk_drewN ?_ _ | refine blk_drew ?_ | refine blk_alloc ?_ _)); exact BK194.out)
     (case side2 => repeat (first | exact (Kd.C_below HR0.out HB.out) | (with_reducible refine Kd.C_alloc ?_ _) | (with_reducible refine Kd.C_drewN ?_ _) | (with_reducible refine Kd.C_drew ?_)))
     (case side3 => exact HC0.out)
     rintro e w19 ⟨v198, rfl, ho0, hb⟩
     refine ⟨_, rfl, ?_⟩
     have n0_ := Aside0.mk (Kd.S_lower ho0 (below_size (by repeat (first | (with_reducible first | exact HB.out | apply below_alloc | apply pw_below_drewN | apply below_drew1 | refine below_set ?_ GE194.out) | exact HB.out))))
     have n1_ := Aside0.mk (blk_below (g := gb194) (o := .cells #[.slice A0 l0.length c0] 22 (0, 0)) (by (with_reducible repeat (first | refine blk_drewN ?_ _ | refine blk_drew ?_ | refine blk_alloc ?_ _)); exact BK194.out) hb)
     have n2_ := Aside0.mk (below_step (by repeat (first | (with_reducible first | exact HB.out | apply below_alloc | apply pw_below_drewN | apply below_drew1 | refine below_set ?_ GE194.out) | exact HB.out)) hb)
     clear BK194
     clear HB
     have HO199 := n0_
     have BK194 := n1_
     have HB := n2_
     clear n0_ n1_ n2_
     (try clear hb)
     (try clear hb2)
     (try clear hk)
     (try clear hi)
     (try clear ho0)
     obtain ⟨Ao20, co20, eo20⟩ := Kd.S_slice HO199.out
     (first | subst eo20 | (injection eo20 with f1_ f2_ f3_; have f4_ := f1_.symm; have f5_ := f3_.symm; clear f1_ f2_ f3_; subst f4_; subst f5_))
     refine hK.out _ _ ((blk_cell BK194.out 0).trans rfl) (fun hHeld => ?_)
     clear hK K
     refine norm_ (a' := ?_) ?_ ?_
     rotate_left
     ·show Act.put _ (some 36) _ = _
      simp only [Act.put, List.setIfInBounds_toArray, List.set_cons_zero, List.set_cons_succ, i64_w, i32_w]
      rfl
     refine one_ (i := 9) (N := some 40) #[true, true, true, true, true, true, true, true, true, true, false, false, false, false, false, false, false] rfl rfl (one_of HT_.out (by kernel_rfl)) (by decide) (fun K hK => ?_)
     refine goes_ Tryd.func42 (by kernel_rfl) rfl #[.slice Ao20 t197.length co20, .slice A1 l1.length c1, .int .i64 (l0.length : Int)] (by rfl) rfl rfl (by (try simp only [List.map_toArray, List.map_cons, List.map_nil]); first | done | rfl | (simp only [List.length_drop, List.length_take]; rfl)) ?_
     with_reducible refine (matrix_solve.calls kj4 _ _ t197 _ _ l1 (l0.length : Int) t200 t201 true _ ?side1 ?side2 ?side3 ?side4 ?side5 A16.out).mono ?_
     (case side1 => first | (with_reducible exact HG.out) | (with_reducible exact HighIn.drewN HG.out _) | exact HighIn.below HG.out (by repeat (first | (with_reducible first | exact HB.out | apply below_alloc | apply pw_below_drewN | apply below_drew1 | refine below_set ?_ GE194.out) | exact HB.out)) | ((repeat (first | (with_reducible exact HG.out) | (with_reducible apply HighIn.drewN) | (with_reducible apply HighIn.drew) | (with_reducible apply HighIn.alloc))); done))
     (case side2 => repeat (first | exact (Kd.S_reads' HO199.out).2.2 | (with_reducible refine Kd.C_alloc ?_ _) | (with_reducible refine Kd.C_drewN ?_ _) | (with_reducible refine Kd.C_drew ?_)))
     (case side3 => exact (Kd.S_reads' HO199.out).2.1)
     (case side4 => repeat (first | exact (Kd.C_below HR1.out HB.out) | (with_reducible refine Kd.C_alloc ?_ _) | (with_reducible refine Kd.C_drewN ?_ _) | (with_reducible refine Kd.C_drew ?_)))
     (case side5 => exact HC1.out)
     rintro e w21 ⟨v203, v205, rfl, ho0, ho1, hb⟩
     refine ⟨_, rfl, ?_⟩
     have n0_ := Aside0.mk (Kd.S_mono (Kd.S_told (Kd.S_told (Kd.S_old (by (with_reducible repeat (first | apply Kd.S_alloc | apply Kd.S_drewN | apply Kd.S_drew)); exact HO199.out) hb) (Kd.R_base ho0)) (Kd.S_base ho1)) (fun _ h_ => h_.1))
     have n1_ := Aside0.mk (Kd.R_lower ho0 (below_size (by repeat (first | (with_reducible first | exact HB.out | apply below_alloc | apply pw_below_drewN | apply below_drew1 | refine below_set ?_ GE194.out) | exact HB.out))))
     have n2_ := Aside0.mk (Kd.S_lower (Kd.S_new' ho1 (Kd.S_lt (by (with_reducible repeat (first | apply Kd.S_alloc | apply Kd.S_drewN | apply Kd.S_drew)); exact HO199.out))) (below_size (by repeat (first | (with_reducible first | exact HB.out | apply below_alloc | apply pw_below_drewN | apply below_drew1 | refine below_set ?_ GE194.out) | exact HB.out))))
     have n3_ := Aside0.mk (blk_below (g := gb194) (o := .cells #[.slice A0 l0.length c0] 22 (0, 0)) (by (with_reducible repeat (first | refine blk_drewN ?_ _ | refine blk_drew ?_ | refine blk_alloc ?_ _)); exact BK194.out) hb)
     have n4_ := Aside0.mk (below_step (by repeat (first | (with_reducible first | exact HB.out | apply below_alloc | apply pw_below_drewN | apply below_drew1 | refine below_set ?_ GE194.out) | exact HB.out)) hb)
     clear HO199
     clear BK194
     clear HB
     have HO199 := n0_
     have HO204 := n1_
     have HO206 := n2_
     have BK194 := n3_
     have HB := n4_
     clear n0_ n1_ n2_ n3_ n4_
     (try clear hb)
     (try clear hb2)
     (try clear hk)
     (try clear hi)
     (try clear ho0)
     (try clear ho1)
     refine hK.out _ _ ((blk_cell BK194.out 0).trans rfl) (fun hHeld => ?_)
     clear hK K
     refine norm_ (a' := ?_) ?_ ?_
     rotate_left
     ·show Act.put _ (some 40) _ = _
      simp only [Act.put, List.setIfInBounds_toArray, List.set_cons_zero, List.set_cons_succ, i64_w, i32_w]
      rfl
     refine pure_ (i := 10) (N := some 30) (v := ?_) (a' := ?_) #[true, true, true, true, true, true, true, true, true, true, true, false, false, false, false, false, false] rfl rfl (any_of HT_.out (by kernel_rfl)) (fun _ _ _ h => h) (Or.inl ⟨by rfl, ?_⟩) ?_ ?_
     rotate_left
     ·intro w'
      go_simp
      with_reducible rfl
     rotate_left
     ·simp only [Act.put, List.setIfInBounds_toArray, List.set_cons_zero, List.set_cons_succ, i64_w, i32_w]
      rfl
     refine pure_ (i := 11) (N := some 41) (v := ?_) (a' := ?_) #[true, true, true, true, true, true, true, true, true, true, true, true, false, false, false, false, false] rfl rfl (any_of HT_.out (by kernel_rfl)) (fun _ _ _ h => h) (Or.inl ⟨by rfl, ?_⟩) ?_ ?_
     rotate_left
     ·intro w'
      go_simp
      with_reducible rfl
     rotate_left
     ·simp only [Act.put, List.setIfInBounds_toArray, List.set_cons_zero, List.set_cons_succ, i64_w, i32_w]
      rfl
     refine pure_ (i := 12) (N := some 42) (v := ?_) (a' := ?_) #[true, true, true, true, true, true, true, true, true, true, true, true, true, false, false, false, false] rfl rfl (any_of HT_.out (by kernel_rfl)) (fun _ _ _ h => h) (Or.inl ⟨by rfl, ?_⟩) ?_ ?_
     rotate_left
     ·intro w'
      go_simp
      with_reducible rfl
     rotate_left
     ·simp only [Act.put, List.setIfInBounds_toArray, List.set_cons_zero, List.set_cons_succ, i64_w, i32_w]
      rfl
     refine pure_ (i := 13) (N := some 43) (v := ?_) (a' := ?_) #[true, true, true, true, true, true, true, true, true, true, true, true, true, true, false, false, false] rfl rfl (any_of HT_.out (by kernel_rfl)) (fun _ _ _ h => h) (Or.inl ⟨by rfl, ?_⟩) ?_ ?_
     rotate_left
     ·intro w'
      go_simp
      with_reducible rfl
     rotate_left
     ·simp only [Act.put, List.setIfInBounds_toArray, List.set_cons_zero, List.set_cons_succ, i64_w, i32_w]
      rfl
     refine pure_ (i := 14) (N := some 7) (v := ?_) (a' := ?_) #[true, true, true, true, true, true, true, true, true, true, true, true, true, true, true, false, false] rfl rfl (any_of HT_.out (by kernel_rfl)) (fun _ _ _ h => h) (Or.inl ⟨by rfl, ?_⟩) ?_ ?_
     rotate_left
     ·intro w'
      go_simp
      with_reducible rfl
     rotate_left
     ·simp only [Act.put, List.setIfInBounds_toArray, List.set_cons_zero, List.set_cons_succ, i64_w, i32_w]
      rfl
     refine pure_ (i := 15) (N := some 8) (v := ?_) (a' := ?_) #[true, true, true, true, true, true, true, true, true, true, true, true, true, true, true, true, false] rfl rfl (any_of HT_.out (by kernel_rfl)) (fun _ _ _ h => h) (Or.inl ⟨by rfl, ?_⟩) ?_ ?_
     rotate_left
     ·intro w'
      go_simp
      with_reducible rfl
     rotate_left
     ·simp only [Act.put, List.setIfInBounds_toArray, List.set_cons_zero, List.set_cons_succ, i64_w, i32_w]
      rfl
     refine pure_ (i := 16) (N := some 9) (v := ?_) (a' := ?_) #[true, true, true, true, true, true, true, true, true, true, true, true, true, true, true, true, true] rfl rfl (any_of HT_.out (by kernel_rfl)) (fun _ _ _ h => h) (Or.inl ⟨by rfl, ?_⟩) ?_ ?_
     rotate_left
     ·intro w'
      go_simp
      with_reducible rfl
     rotate_left
     ·simp only [Act.put, List.setIfInBounds_toArray, List.set_cons_zero, List.set_cons_succ, i64_w, i32_w]
      rfl
     refine done_ (done_of HT_.out (by kernel_rfl)) ?_
     try go_wp2
     go_ret2
     exact ⟨_, by first | rfl | (simp [errW_none, errW_some] <;> rfl) | (simp [*, errW_none, errW_some] <;> rfl), by (with_reducible repeat (first | apply Kd.R_alloc | apply Kd.R_drewN | apply Kd.R_drew)); exact HO204.out, by repeat (first | (with_reducible first | exact HB.out | apply below_alloc | apply pw_below_drewN | apply below_drew1 | refine below_set ?_ GE194.out) | exact HB.out)⟩
    ·replace c17 := Bool.eq_false_iff.mpr c17
     subst c17
     have H1 : (some (([] : List Int), 8)) = some (r1, r2) := by rw [if_neg (show ¬ (false = true) by decide)] at H; exact H
     clear H
     have H := H1
     clear H1
     simp only [Option.some.injEq, Prod.mk.injEq] at H
     obtain ⟨rfl, rfl⟩ := H
     try go_wp2
     have n0_ := Aside0.mk (blk_drew BK194.out)
     have n1_ := Aside0.mk (below_drew1 HB.out)
     clear BK194
     clear HB
     have BK194 := n0_
     have HB := n1_
     clear n0_ n1_
     refine start_ (n := 17) (S := fun w' => w'.cell? ⟨gb194, 0, none⟩ = some (.slice A0 l0.length c0)) (ds := []) #[false, false, false, false, false, false, false, false, false, false, false, false, false, false, false, false, false] (by kernel_rfl) rfl rfl ((blk_cell BK194.out 0).trans rfl) (fun hHeld => ?_); refine with_tabW matrix_Express.tab8 matrix_Express.bits8 (fun HT_ HW_ => ?_)
     generalize wc.drew = w22 at BK194 HB hHeld ⊢
     refine pure_ (i := 0) (N := some 31) (v := ?_) (a' := ?_) #[true, false, false, false, false, false, false, false, false, false, false, false, false, false, false, false, false] rfl rfl (any_of HT_.out (by kernel_rfl)) (fun _ _ _ h => h) (Or.inl ⟨by rfl, ?_⟩) ?_ ?_
     rotate_left
     ·intro w'
      go_simp
      with_reducible rfl
     rotate_left
     ·simp only [Act.put, List.setIfInBounds_toArray, List.set_cons_zero, List.set_cons_succ, i64_w, i32_w]
      rfl
     refine pure_ (i := 1) (N := some 32) (v := ?_) (a' := ?_) #[true, true, false, false, false, false, false, false, false, false, false, false, false, false, false, false, false] rfl rfl (any_of HT_.out (by kernel_rfl)) (fun _ _ _ h => h) (Or.inl ⟨by rfl, ?_⟩) ?_ ?_
     rotate_left
     ·intro w'
      go_simp
      with_reducible rfl
     rotate_left
     ·simp only [Act.put, List.setIfInBounds_toArray, List.set_cons_zero, List.set_cons_succ, i64_w, i32_w]
      rfl
     refine pure_ (i := 4) (N := some 35) (v := ?_) (a' := ?_) #[true, true, false, false, true, false, false, false, false, false, false, false, false, false, false, false, false] rfl rfl (any_of HT_.out (by kernel_rfl)) (fun _ _ _ h => h) (Or.inl ⟨by rfl, ?_⟩) ?_ ?_
     rotate_left
     ·intro w'
      go_simp
      with_reducible rfl
     rotate_left
     ·simp only [Act.put, List.setIfInBounds_toArray, List.set_cons_zero, List.set_cons_succ, i64_w, i32_w]
      rfl
     refine pure_ (i := 6) (N := some 37) (v := ?_) (a' := ?_) #[true, true, false, false, true, false, true, false, false, false, false, false, false, false, false, false, false] rfl rfl (any_of HT_.out (by kernel_rfl)) (fun _ _ _ h => h) (Or.inl ⟨by rfl, ?_⟩) ?_ ?_
     rotate_left
     ·intro w'
      go_simp
      with_reducible rfl
     rotate_left
     ·simp only [Act.put, List.setIfInBounds_toArray, List.set_cons_zero, List.set_cons_succ, i64_w, i32_w]
      rfl
     refine take_ (i := 2) (N := some 33) (v := ?_) (a' := ?_) #[true, true, true, false, true, false, true, false, false, false, false, false, false, false, false, false, false] rfl rfl (take_ofW HT_.out HW_.out (by kernel_rfl)) (fun _ _ _ h => h) (Or.inl ⟨by rfl, ?_⟩) hHeld ?_ ?_
     rotate_left
     ·intro w' s0
      (try simp only [Int.toNat_natCast] at s0)
      go_simp
      with_reducible rfl
     rotate_left
     ·simp only [Act.put, List.setIfInBounds_toArray, List.set_cons_zero, List.set_cons_succ, i64_w, i32_w]
      rfl
     refine pure_ (i := 3) (N := some 34) (v := ?_) (a' := ?_) #[true, true, true, true, true, false, true, false, false, false, false, false, false, false, false, false, false] rfl rfl (any_of HT_.out (by kernel_rfl)) (fun _ _ _ h => h) (Or.inl ⟨by rfl, ?_⟩) ?_ ?_
     rotate_left
     ·intro w'
      go_simp
      with_reducible rfl
     rotate_left
     ·simp only [Act.put, List.setIfInBounds_toArray, List.set_cons_zero, List.set_cons_succ, i64_w, i32_w]
      rfl
     refine take_ (i := 7) (N := some 38) (v := ?_) (a' := ?_) #[true, true, true, true, true, false, true, true, false, false, false, false, false, false, false, false, false] rfl rfl (take_ofW HT_.out HW_.out (by kernel_rfl)) (fun _ _ _ h => h) (Or.inl ⟨by rfl, ?_⟩) hHeld ?_ ?_
     rotate_left
     ·intro w' s0
      (try simp only [Int.toNat_natCast] at s0)
      go_simp
      with_reducible rfl
     rotate_left
     ·simp only [Act.put, List.setIfInBounds_toArray, List.set_cons_zero, List.set_cons_succ, i64_w, i32_w]
      rfl
     refine pure_ (i := 8) (N := some 39) (v := ?_) (a' := ?_) #[true, true, true, true, true, false, true, true, true, false, false, false, false, false, false, false, false] rfl rfl (any_of HT_.out (by kernel_rfl)) (fun _ _ _ h => h) (Or.inl ⟨by rfl, ?_⟩) ?_ ?_
     rotate_left
     ·intro w'
      go_simp
      with_reducible rfl
     rotate_left
     ·simp only [Act.put, List.setIfInBounds_toArray, List.set_cons_zero, List.set_cons_succ, i64_w, i32_w]
      rfl
     refine one_ (i := 5) (N := some 36) #[true, true, true, true, true, true, true, true, true, false, false, false, false, false, false, false, false] rfl rfl (one_of HT_.out (by kernel_rfl)) (by decide) (fun K hK => ?_)
     refine goes_ Tryd.func35 (by kernel_rfl) rfl #[.int .i64 (l1.length : Int), .int .i64 (l0.length : Int), .func (.func 46) #[] #[.pointer (some ⟨gb194, 0, none⟩)]] (by rfl) rfl rfl (by (try simp only [List.map_toArray, List.map_cons, List.map_nil]); first | done | rfl | (simp only [List.length_drop, List.length_take]; rfl)) ?_
     with_reducible refine (grid_46.calls gb194 (l1.length : Int) (l0.length : Int) A0 c0 l0 t197 _ ?side1 ?side2 ?side3 A15.out).mono ?_
     (case side1 => (with_reducible repeat (first | refine blk_drewN ?_ _ | refine blk_drew ?_ | refine blk_alloc ?_ _)); exact BK194.out)
     (case side2 => repeat (first | exact (Kd.C_below HR0.out HB.out) | (with_reducible refine Kd.C_alloc ?_ _) | (with_reducible refine Kd.C_drewN ?_ _) | (with_reducible refine Kd.C_drew ?_)))
     (case side3 => exact HC0.out)
     rintro e w23 ⟨v198, rfl, ho0, hb⟩
     refine ⟨_, rfl, ?_⟩
     have n0_ := Aside0.mk (Kd.S_lower ho0 (below_size (by repeat (first | (with_reducible first | exact HB.out | apply below_alloc | apply pw_below_drewN | apply below_drew1 | refine below_set ?_ GE194.out) | exact HB.out))))
     have n1_ := Aside0.mk (blk_below (g := gb194) (o := .cells #[.slice A0 l0.length c0] 22 (0, 0)) (by (with_reducible repeat (first | refine blk_drewN ?_ _ | refine blk_drew ?_ | refine blk_alloc ?_ _)); exact BK194.out) hb)
     have n2_ := Aside0.mk (below_step (by repeat (first | (with_reducible first | exact HB.out | apply below_alloc | apply pw_below_drewN | apply below_drew1 | refine below_set ?_ GE194.out) | exact HB.out)) hb)
     clear BK194
     clear HB
     have HO199 := n0_
     have BK194 := n1_
     have HB := n2_
     clear n0_ n1_ n2_
     (try clear hb)
     (try clear hb2)
     (try clear hk)
     (try clear hi)
     (try clear ho0)
     obtain ⟨Ao24, co24, eo24⟩ := Kd.S_slice HO199.out
     (first | subst eo24 | (injection eo24 with f1_ f2_ f3_; have f4_ := f1_.symm; have f5_ := f3_.symm; clear f1_ f2_ f3_; subst f4_; subst f5_))
     refine hK.out _ _ ((blk_cell BK194.out 0).trans rfl) (fun hHeld => ?_)
     clear hK K
     refine norm_ (a' := ?_) ?_ ?_
     rotate_left
     ·show Act.put _ (some 36) _ = _
      simp only [Act.put, List.setIfInBounds_toArray, List.set_cons_zero, List.set_cons_succ, i64_w, i32_w]
      rfl
     refine one_ (i := 9) (N := some 40) #[true, true, true, true, true, true, true, true, true, true, false, false, false, false, false, false, false] rfl rfl (one_of HT_.out (by kernel_rfl)) (by decide) (fun K hK => ?_)
     refine goes_ Tryd.func42 (by kernel_rfl) rfl #[.slice Ao24 t197.length co24, .slice A1 l1.length c1, .int .i64 (l0.length : Int)] (by rfl) rfl rfl (by (try simp only [List.map_toArray, List.map_cons, List.map_nil]); first | done | rfl | (simp only [List.length_drop, List.length_take]; rfl)) ?_
     with_reducible refine (matrix_solve.calls kj4 _ _ t197 _ _ l1 (l0.length : Int) t200 t201 false _ ?side1 ?side2 ?side3 ?side4 ?side5 A16.out).mono ?_
     (case side1 => first | (with_reducible exact HG.out) | (with_reducible exact HighIn.drewN HG.out _) | exact HighIn.below HG.out (by repeat (first | (with_reducible first | exact HB.out | apply below_alloc | apply pw_below_drewN | apply below_drew1 | refine below_set ?_ GE194.out) | exact HB.out)) | ((repeat (first | (with_reducible exact HG.out) | (with_reducible apply HighIn.drewN) | (with_reducible apply HighIn.drew) | (with_reducible apply HighIn.alloc))); done))
     (case side2 => repeat (first | exact (Kd.S_reads' HO199.out).2.2 | (with_reducible refine Kd.C_alloc ?_ _) | (with_reducible refine Kd.C_drewN ?_ _) | (with_reducible refine Kd.C_drew ?_)))
     (case side3 => exact (Kd.S_reads' HO199.out).2.1)
     (case side4 => repeat (first | exact (Kd.C_below HR1.out HB.out) | (with_reducible refine Kd.C_alloc ?_ _) | (with_reducible refine Kd.C_drewN ?_ _) | (with_reducible refine Kd.C_drew ?_)))
     (case side5 => exact HC1.out)
     rintro e w25 ⟨v203, v205, rfl, ho0, ho1, hb⟩
     refine ⟨_, rfl, ?_⟩
     have n0_ := Aside0.mk (Kd.S_mono (Kd.S_told (Kd.S_told (Kd.S_old (by (with_reducible repeat (first | apply Kd.S_alloc | apply Kd.S_drewN | apply Kd.S_drew)); exact HO199.out) hb) (Kd.R_base ho0)) (Kd.S_base ho1)) (fun _ h_ => h_.1))
     have n1_ := Aside0.mk (Kd.R_lower ho0 (below_size (by repeat (first | (with_reducible first | exact HB.out | apply below_alloc | apply pw_below_drewN | apply below_drew1 | refine below_set ?_ GE194.out) | exact HB.out))))
     have n2_ := Aside0.mk (Kd.S_lower (Kd.S_new' ho1 (Kd.S_lt (by (with_reducible repeat (first | apply Kd.S_alloc | apply Kd.S_drewN | apply Kd.S_drew)); exact HO199.out))) (below_size (by repeat (first | (with_reducible first | exact HB.out | apply below_alloc | apply pw_below_drewN | apply below_drew1 | refine below_set ?_ GE194.out) | exact HB.out))))
     have n3_ := Aside0.mk (blk_below (g := gb194) (o := .cells #[.slice A0 l0.length c0] 22 (0, 0)) (by (with_reducible repeat (first | refine blk_drewN ?_ _ | refine blk_drew ?_ | refine blk_alloc ?_ _)); exact BK194.out) hb)
     have n4_ := Aside0.mk (below_step (by repeat (first | (with_reducible first | exact HB.out | apply below_alloc | apply pw_below_drewN | apply below_drew1 | refine below_set ?_ GE194.out) | exact HB.out)) hb)
     clear HO199
     clear BK194
     clear HB
     have HO199 := n0_
     have HO204 := n1_
     have HO206 := n2_
     have BK194 := n3_
     have HB := n4_
     clear n0_ n1_ n2_ n3_ n4_
     (try clear hb)
     (try clear hb2)
     (try clear hk)
     (try clear hi)
     (try clear ho0)
     (try clear ho1)
     refine hK.out _ _ ((blk_cell BK194.out 0).trans rfl) (fun hHeld => ?_)
     clear hK K
     refine norm_ (a' := ?_) ?_ ?_
     rotate_left
     ·show Act.put _ (some 40) _ = _
      simp only [Act.put, List.setIfInBounds_toArray, List.set_cons_zero, List.set_cons_succ, i64_w, i32_w]
      rfl
     refine pure_ (i := 10) (N := some 30) (v := ?_) (a' := ?_) #[true, true, true, true, true, true, true, true, true, true, true, false, false, false, false, false, false] rfl rfl (any_of HT_.out (by kernel_rfl)) (fun _ _ _ h => h) (Or.inl ⟨by rfl, ?_⟩) ?_ ?_
     rotate_left
     ·intro w'
      go_simp
      with_reducible rfl
     rotate_left
     ·simp only [Act.put, List.setIfInBounds_toArray, List.set_cons_zero, List.set_cons_succ, i64_w, i32_w]
      rfl
     refine pure_ (i := 11) (N := some 41) (v := ?_) (a' := ?_) #[true, true, true, true, true, true, true, true, true, true, true, true, false, false, false, false, false] rfl rfl (any_of HT_.out (by kernel_rfl)) (fun _ _ _ h => h) (Or.inl ⟨by rfl, ?_⟩) ?_ ?_
     rotate_left
     ·intro w'
      go_simp
      with_reducible rfl
     rotate_left
     ·simp only [Act.put, List.setIfInBounds_toArray, List.set_cons_zero, List.set_cons_succ, i64_w, i32_w]
      rfl
     refine pure_ (i := 12) (N := some 42) (v := ?_) (a' := ?_) #[true, true, true, true, true, true, true, true, true, true, true, true, true, false, false, false, false] rfl rfl (any_of HT_.out (by kernel_rfl)) (fun _ _ _ h => h) (Or.inl ⟨by rfl, ?_⟩) ?_ ?_
     rotate_left
     ·intro w'
      go_simp
      with_reducible rfl
     rotate_left
     ·simp only [Act.put, List.setIfInBounds_toArray, List.set_cons_zero, List.set_cons_succ, i64_w, i32_w]
      rfl
     refine pure_ (i := 13) (N := some 43) (v := ?_) (a' := ?_) #[true, true, true, true, true, true, true, true, true, true, true, true, true, true, false, false, false] rfl rfl (any_of HT_.out (by kernel_rfl)) (fun _ _ _ h => h) (Or.inl ⟨by rfl, ?_⟩) ?_ ?_
     rotate_left
     ·intro w'
      go_simp
      with_reducible rfl
     rotate_left
     ·simp only [Act.put, List.setIfInBounds_toArray, List.set_cons_zero, List.set_cons_succ, i64_w, i32_w]
      rfl
     refine pure_ (i := 14) (N := some 7) (v := ?_) (a' := ?_) #[true, true, true, true, true, true, true, true, true, true, true, true, true, true, true, false, false] rfl rfl (any_of HT_.out (by kernel_rfl)) (fun _ _ _ h => h) (Or.inl ⟨by rfl, ?_⟩) ?_ ?_
     rotate_left
     ·intro w'
      go_simp
      with_reducible rfl
     rotate_left
     ·simp only [Act.put, List.setIfInBounds_toArray, List.set_cons_zero, List.set_cons_succ, i64_w, i32_w]
      rfl
     refine pure_ (i := 15) (N := some 8) (v := ?_) (a' := ?_) #[true, true, true, true, true, true, true, true, true, true, true, true, true, true, true, true, false] rfl rfl (any_of HT_.out (by kernel_rfl)) (fun _ _ _ h => h) (Or.inl ⟨by rfl, ?_⟩) ?_ ?_
     rotate_left
     ·intro w'
      go_simp
      with_reducible rfl
     rotate_left
     ·simp only [Act.put, List.setIfInBounds_toArray, List.set_cons_zero, List.set_cons_succ, i64_w, i32_w]
      rfl
     refine pure_ (i := 16) (N := some 9) (v := ?_) (a' := ?_) #[true, true, true, true, true, true, true, true, true, true, true, true, true, true, true, true, true] rfl rfl (any_of HT_.out (by kernel_rfl)) (fun _ _ _ h => h) (Or.inl ⟨by rfl, ?_⟩) ?_ ?_
     rotate_left
     ·intro w'
      go_simp
      with_reducible rfl
     rotate_left
     ·simp only [Act.put, List.setIfInBounds_toArray, List.set_cons_zero, List.set_cons_succ, i64_w, i32_w]
      rfl
     refine done_ (done_of HT_.out (by kernel_rfl)) ?_
     try go_wp2
     go_ret2
     exact ⟨_, by first | rfl | (simp [errW_none, errW_some] <;> rfl) | (simp [*, errW_none, errW_some] <;> rfl), by first | exact Kd.R_nil _ _ _ _ _ | exact Kd.N_nil _ _ _ _ _ | exact Kd.V_nil _ _ _ _ _ | exact Kd.Q_nil _ _ _ _ _ | exact Kd.S_nil _ _ _ _ _, by repeat (first | (with_reducible first | exact HB.out | apply below_alloc | apply pw_below_drewN | apply below_drew1 | refine below_set ?_ GE194.out) | exact HB.out)⟩
 ·rw [if_neg c4] at H
  have c4b0 : (t195 == 0) = false := beq_eq_false_iff_ne.mpr c4
  have c4b1 : (t195 != 0) = true := bne_iff_ne.mpr c4
  simp only [Option.some.injEq, Prod.mk.injEq] at H
  obtain ⟨rfl, rfl⟩ := H
  go_enter Tryd.func25, Tryd.ntmps25
  go_wp2_with (first | ((with_reducible refine gate_dst (N := 2) rfl ?_); (try (refine gate_guard (by rfl) ?_; dsimp only)); refine box_event ?hg (N := 2) ?hd (cs := #[.slice A0 l0.length c0]) (t := 22) ?hr ?_; (case hd => rfl); (case hg => rfl); (case hr => first | (go_simp; done) | (go_simp; rfl)); intro gb194 hg w26 hbox hb; have n0_ := Aside0.mk (below_step (by repeat (first | (with_reducible first | exact HB.out | apply below_alloc | apply pw_below_drewN | apply below_drew1) | exact HB.out)) hb); have n1_ := Aside0.mk (hbox); have n2_ := Aside0.mk ((by rw [hg]; exact (below_size (by repeat (first | (with_reducible first | exact HB.out | apply below_alloc | apply pw_below_drewN | apply below_drew1) | exact HB.out))) : w.heap.size ≤ gb194)); have n3_ := Aside0.mk ((by rw [hg]; exact (below_size (by repeat (first | (with_reducible first | exact HB.out | apply below_alloc | apply pw_below_drewN | apply below_drew1) | exact HB.out))) : w.heap.size ≤ gb194)); clear HB; have HB := n0_; have BK194 := n1_; have GW194 := n2_; have GE194 := n3_; clear n0_ n1_ n2_ n3_; clear hb hbox hg; have hcz27_0 : w26.cell? ⟨gb194, 0, none⟩ = some (.slice A0 l0.length c0) := (blk_cell BK194.out 0).trans rfl; have hfz27_0 := blk_frozen BK194.out 0) | ((with_reducible refine gate_callee (f := 16) rfl ?_); refine goesL_ (some 11) rfl rfl Tryd.func16 (by kernel_rfl) rfl #[.slice A0 l0.length c0] rfl (by (try simp only [List.map_toArray, List.map_cons, List.map_nil]); first | done | rfl | (simp only [List.length_drop, List.length_take]; rfl)) ?_; (with_reducible refine (matrix_Check.calls k _ _ l0 t195 _ ?side1 ?side2 A3.out).mono ?_); (case side1 => repeat (first | exact (Kd.C_below HR0.out HB.out) | (with_reducible refine Kd.C_alloc ?_ _) | (with_reducible refine Kd.C_drewN ?_ _) | (with_reducible refine Kd.C_drew ?_))); (case side2 => exact HC0.out); rintro e w' ⟨rfl, ⟨nd, rfl⟩⟩; refine ⟨_, rfl, ?_⟩))
  go_ret2
  exact ⟨_, by first | rfl | (simp [errW_none, errW_some] <;> rfl) | (simp [*, errW_none, errW_some] <;> rfl), by first | exact Kd.R_nil _ _ _ _ _ | exact Kd.N_nil _ _ _ _ _ | exact Kd.V_nil _ _ _ _ _ | exact Kd.Q_nil _ _ _ _ _ | exact Kd.S_nil _ _ _ _ _, by repeat (first | (with_reducible first | exact HB.out | apply below_alloc | apply pw_below_drewN | apply below_drew1 | refine below_set ?_ GE194.out) | exact HB.out)⟩
end Go.Proofs.YtijebgceopddmaaDoor.Pa
end
section
namespace Go.Proofs.YtijebgceopddmaaDoor.Pa
open Go.RowKit Go.Proofs.YtijebgceopddmaaDoor.Gf Go.Proofs.YtijebgceopddmaaDoor.Pr Go.Proofs.YtijebgceopddmaaDoorW.PrintWords Go.Proofs.YtijebgceopddmaaDoorW.PrintLast Go.Proofs.YtijebgceopddmaaDoorW.PrintMore
attribute [local go_sem] max2_int min2_int max_two min_two max_three min_three max_four min_four   -- for this text's walks alone
set_option linter.unusedVariables false
set_option linter.unusedSimpArgs false
def matrix_Product.l0 : Nat → List (List (List Int)) → Int → Int → List (List Int) → List (List Int) → Option ((List (List Int)) × Int)
 | 0, _, _, _, _, _ => none
 | k + 1, x11, x12, x13, x208000, x209000 => if x13 < x12 then (if 0 ≤ x13 then (if x13 < (x11.length : Int) then ((matrix_Check.f k (rd_L4 x11 x13)).bind fun t213 => (if t213 = 0 then (matrix_Product.l0 k x11 x12 (wrap64 (x13 + 1)) x208000 x209000) else (some (([] : List (List Int)), t213)))) else (none)) else (none)) else ((matrix_columns.f x208000).bind fun t214 => (if t214 = (x209000.length : Int) then ((matrix_columns.f x209000).bind fun t215 => ((grid_47.f (x208000.length : Int) t215 x208000 x209000).bind fun t216 => (some (t216, 0)))) else (some (([] : List (List Int)), 1))))
def matrix_Product.f (k : Nat) (l0 : List (List Int)) (l1 : List (List Int)) : Option ((List (List Int)) × Int) := (some (([l0, l1] : List (List (List Int))) : List (List (List Int)))).bind fun y209 => (matrix_Product.l0 k y209 (y209.length : Int) 0 l0 l1)
theorem matrix_Product.mono_l : ∀ k, (∀ y0 y1 y2 y3 y4, LeO (matrix_Product.l0 k y0 y1 y2 y3 y4) (matrix_Product.l0 (k + 1) y0 y1 y2 y3 y4))
 | 0 => fun _ _ _ _ _ r h => by simp [matrix_Product.l0] at h
 | k + 1 => by
  have ih0 := matrix_Product.mono_l k
  ·intro y0 y1 y2 y3 y4
   unfold matrix_Product.l0
   repeat' first
   | (with_reducible exact ih0 _ _ _ _ _)
   | (with_reducible exact matrix_Check.mono _ _)
   | (with_reducible exact LeO.refl _)
   | (with_reducible exact LeO.none _)
   | (with_reducible refine LeO.ite ?_ ?_)
   | (with_reducible refine LeO.bind ?_ (fun _ => ?_))
   | exact ih0 _ _ _ _ _
   | exact matrix_Check.mono _ _
   | exact LeO.none _
   | refine LeO.ite ?_ ?_
   | refine LeO.bind ?_ (fun _ => ?_)
theorem matrix_Product.mono : ∀ a0 a1 k, LeO (matrix_Product.f k a0 a1) (matrix_Product.f (k + 1) a0 a1) := by
 intro a0 a1 k
 have ih0 := matrix_Product.mono_l k
 unfold matrix_Product.f
 repeat' first
   | (with_reducible exact ih0 _ _ _ _ _)
   | (with_reducible exact matrix_Check.mono _ _)
   | (with_reducible exact LeO.refl _)
   | (with_reducible exact LeO.none _)
   | (with_reducible refine LeO.ite ?_ ?_)
   | (with_reducible refine LeO.bind ?_ (fun _ => ?_))
   | exact ih0 _ _ _ _ _
   | exact matrix_Check.mono _ _
   | exact LeO.none _
   | refine LeO.ite ?_ ?_
   | refine LeO.bind ?_ (fun _ => ?_)
def matrix_Product.T10 : Bool × List (List Nat × List Nat) := (true, [([], []), ([0], [0]), ([], []), ([2], [2]), ([], []), ([1, 3, 4, 3], [1, 3, 4]), ([5, 5, 0, 1, 2, 3, 4, 5], [5]), ([6, 0, 1, 2, 3, 4, 5, 6], [])])
def matrix_Product.B10 : List Nat := [0, 1, 0, 4, 0, 31, 63, 127]
theorem matrix_Product.tab10 : rtab .any (opsOf Tryd.f28 10) = matrix_Product.T10 := by kernel_rfl
theorem matrix_Product.bits10 : waitsOk matrix_Product.T10.2 matrix_Product.B10 = true := by kernel_rfl
set_option maxHeartbeats 8000000 in
set_option maxRecDepth 100000 in
theorem matrix_Product.calls (k : Nat) (P0_ : Nat → Prop) (A0 : Option Addr) (c0 : Nat) (l0 : List (List Int)) (P1_ : Nat → Prop) (A1 : Option Addr) (c1 : Nat) (l1 : List (List Int)) (r1 : List (List Int)) (r2 : Int) (w : World) (hG : HighIn w) (hs0 : Kd.V (Kd.slice 5 (Kd.int .u8)) 43 w w.heap.size (fun k_ => P0_ k_) (.slice A0 l0.length c0) l0) (hs1 : Kd.V (Kd.slice 5 (Kd.int .u8)) 43 w w.heap.size (fun k_ => P1_ k_) (.slice A1 l1.length c1) l1) (h : matrix_Product.f k l0 l1 = some (r1, r2)) :
  Calls Tryd.prog 28 #[.slice A0 l0.length c0, .slice A1 l1.length c1] w fun e w' => ∃ v0_ : Value, e = .returned (.tuple #[v0_, .int .i64 r2]) ∧ Kd.N (Kd.slice 5 (Kd.int .u8)) 43 w' w.heap.size (fun k_ => ((P0_ k_ ∨ P1_ k_) ∨ w.heap.size ≤ k_)) v0_ r1 ∧ Below w.heap.size w w' := by
 have hmf : ∀ (fn : Fn) (first cap : Array Value) (w : World), (Instr.makeFunc fn first cap).run Tryd.prog w = .ok (.func fn first cap) w := fun _ _ _ _ => rfl
 have HG := Aside0.mk hG
 clear hG
 have HO0 := Aside0.mk (show Kd.V (Kd.slice 5 (Kd.int .u8)) 43 w w.heap.size (fun k_ => ((P0_ k_ ∨ P1_ k_) ∨ w.heap.size ≤ k_)) (.slice A0 l0.length c0) l0 from Kd.V_mono hs0 (fun k_ hk => .inl (.inl hk)))
 have HO1 := Aside0.mk (show Kd.V (Kd.slice 5 (Kd.int .u8)) 43 w w.heap.size (fun k_ => ((P0_ k_ ∨ P1_ k_) ∨ w.heap.size ≤ k_)) (.slice A1 l1.length c1) l1 from Kd.V_mono hs1 (fun k_ hk => .inl (.inr hk)))
 have HB := Aside0.mk (Below.refl w.heap.size w)
 have H : ((some (([l0, l1] : List (List (List Int))) : List (List (List Int)))).bind fun y209 => (matrix_Product.l0 k y209 (y209.length : Int) 0 l0 l1)) = some (r1, r2) := h
 clear h
 obtain ⟨y209, hy209⟩ : ∃ y_ : List (List (List Int)), y_ = (([l0, l1] : List (List (List Int)))) := ⟨_, rfl⟩
 replace H : (matrix_Product.l0 k y209 (y209.length : Int) 0 l0 l1) = some (r1, r2) := by first | (rw [hy209]; with_reducible exact H) | (have H2_ := (Option.bind_some _ _).symm.trans H; rw [hy209]; with_reducible exact H2_) | (have H2_ := (Option.bind_some _ _).symm.trans H; with_reducible exact H2_) | with_reducible exact H | (rw [hy209]; exact H) | exact H
 have Ny209 := Aside0.mk hy209
 clear hy209
 have H' := Aside0.mk H
 clear H
 go_enter Tryd.func28, Tryd.ntmps28
 go_wp2_with (first | ((with_reducible refine gate_dst (N := 2) rfl ?_); refine box_event ?hg (N := 2) ?hd (cs := #[.slice A0 l0.length c0]) (t := 22) ?hr ?_; (case hd => rfl); (case hg => rfl); (case hr => first | (go_simp; done) | (go_simp; rfl)); intro gb207 hg w3 hbox hb; have n0_ := Aside0.mk (Kd.V_below (Kd.V_elderB (by (with_reducible repeat (first | apply Kd.V_alloc | apply Kd.V_drewN | apply Kd.V_drew)); exact HO0.out) gb207 (Nat.le_of_eq hg.symm)) hb); have n1_ := Aside0.mk (Kd.V_below (Kd.V_elderB (by (with_reducible repeat (first | apply Kd.V_alloc | apply Kd.V_drewN | apply Kd.V_drew)); exact HO1.out) gb207 (Nat.le_of_eq hg.symm)) hb); have n2_ := Aside0.mk (below_step (by repeat (first | (with_reducible first | exact HB.out | apply below_alloc | apply pw_below_drewN | apply below_drew1) | exact HB.out)) hb); have n3_ := Aside0.mk (hbox); have n4_ := Aside0.mk ((by rw [hg]; exact (below_size (by repeat (first | (with_reducible first | exact HB.out | apply below_alloc | apply pw_below_drewN | apply below_drew1) | exact HB.out))) : w.heap.size ≤ gb207)); have n5_ := Aside0.mk ((by rw [hg]; exact (below_size (by repeat (first | (with_reducible first | exact HB.out | apply below_alloc | apply pw_below_drewN | apply below_drew1) | exact HB.out))) : w.heap.size ≤ gb207)); clear HO0; clear HO1; clear HB; have HO0 := n0_; have HO1 := n1_; have HB := n2_; have BK207 := n3_; have GW207 := n4_; have GE207 := n5_; clear n0_ n1_ n2_ n3_ n4_ n5_; clear hb hbox hg) | ((with_reducible refine gate_dst (N := 3) rfl ?_); refine box_event ?hg (N := 3) ?hd (cs := #[.slice A1 l1.length c1]) (t := 22) ?hr ?_; (case hd => rfl); (case hg => rfl); (case hr => first | (go_simp; done) | (go_simp; rfl)); intro gb208 hg w4 hbox hb; have n0_ := Aside0.mk (Kd.V_below (Kd.V_elderB (by (with_reducible repeat (first | apply Kd.V_alloc | apply Kd.V_drewN | apply Kd.V_drew)); exact HO0.out) gb208 (Nat.le_of_eq hg.symm)) hb); have n1_ := Aside0.mk (Kd.V_below (Kd.V_elderB (by (with_reducible repeat (first | apply Kd.V_alloc | apply Kd.V_drewN | apply Kd.V_drew)); exact HO1.out) gb208 (Nat.le_of_eq hg.symm)) hb); have n2_ := Aside0.mk (blk_below (g := gb207) (o := .cells #[.slice A0 l0.length c0] 22 (0, 0)) (by (with_reducible repeat (first | refine blk_drewN ?_ _ | refine blk_drew ?_ | refine blk_alloc ?_ _)); exact BK207.out) hb); have n3_ := Aside0.mk (below_step (by repeat (first | (with_reducible first | exact HB.out | apply below_alloc | apply pw_below_drewN | apply below_drew1 | refine below_set ?_ GE207.out) | exact HB.out)) hb); have n4_ := Aside0.mk (hbox); have n5_ := Aside0.mk ((by rw [hg]; exact (below_size (by repeat (first | (with_reducible first | exact HB.out | apply below_alloc | apply pw_below_drewN | apply below_drew1 | refine below_set ?_ GE207.out) | exact HB.out))) : w.heap.size ≤ gb208)); have n6_ := Aside0.mk ((by rw [hg]; exact (below_size (by repeat (first | (with_reducible first | exact HB.out | apply below_alloc | apply pw_below_drewN | apply below_drew1 | refine below_set ?_ GE207.out) | exact HB.out))) : w.heap.size ≤ gb208)); have n7_ := Aside0.mk ((by rw [hg]; exact Nat.ne_of_lt (blk_lt (g := gb207) (o := .cells #[.slice A0 l0.length c0] 22 (0, 0)) (by (with_reducible repeat (first | refine blk_drewN ?_ _ | refine blk_drew ?_ | refine blk_alloc ?_ _)); exact BK207.out)) : gb207 ≠ gb208)); have n8_ := Aside0.mk ((by rw [hg]; exact Nat.ne_of_gt (blk_lt (g := gb207) (o := .cells #[.slice A0 l0.length c0] 22 (0, 0)) (by (with_reducible repeat (first | refine blk_drewN ?_ _ | refine blk_drew ?_ | refine blk_alloc ?_ _)); exact BK207.out)) : gb208 ≠ gb207)); clear HO0; clear HO1; clear BK207; clear HB; have HO0 := n0_; have HO1 := n1_; have BK207 := n2_; have HB := n3_; have BK208 := n4_; have GW208 := n5_; have GE208 := n6_; have NB207_208 := n7_; have NB208_207 := n8_; clear n0_ n1_ n2_ n3_ n4_ n5_ n6_ n7_ n8_; clear hb hbox hg; have hnb5 := NB207_208.out; have hnc5 := NB208_207.out; have hcz6_0 : w4.cell? ⟨gb207, 0, none⟩ = some (.slice A0 l0.length c0) := (blk_cell BK207.out 0).trans rfl; have hfz6_0 := blk_frozen BK207.out 0; have hcz7_0 : w4.cell? ⟨gb208, 0, none⟩ = some (.slice A1 l1.length c1) := (blk_cell BK208.out 0).trans rfl; have hfz7_0 := blk_frozen BK208.out 0) | ((with_reducible refine gate_dst (N := 11) rfl ?_); refine Kd.N_lit (Kd.slice 43 (Kd.slice 5 (Kd.int .u8))) _ 22 ?hg (N' := 11) ?hd (xs := ([l0, l1] : List (List (List Int)))) (inner := [.slice A0 l0.length c0, .slice A1 l1.length c1]) (ok := (fun k_ => ((P0_ k_ ∨ P1_ k_) ∨ w.heap.size ≤ k_) ∧ k_ ≠ gb207 ∧ k_ ≠ gb208)) (okp := (fun k_ => ((P0_ k_ ∨ P1_ k_) ∨ w.heap.size ≤ k_) ∧ k_ ≠ gb207 ∧ k_ ≠ gb208)) ?hr ?hp (fun _ hk => hk) ((show ∀ k_, w4.heap.size ≤ k_ → (fun k_ => ((P0_ k_ ∨ P1_ k_) ∨ w.heap.size ≤ k_) ∧ k_ ≠ gb207 ∧ k_ ≠ gb208) k_ from fun k_ hk => ⟨(.inr (Nat.le_trans (below_size (by repeat (first | (with_reducible first | exact HB.out | apply below_alloc | apply pw_below_drewN | apply below_drew1 | refine below_set ?_ GE207.out | refine below_set ?_ GE208.out) | exact HB.out))) hk)), Kd.freshB (g := gb207) (o := .cells #[.slice A0 l0.length c0] 22 (0, 0)) (by (with_reducible repeat (first | refine blk_drewN ?_ _ | refine blk_drew ?_ | refine blk_alloc ?_ _)); exact BK207.out) k_ hk, Kd.freshB (g := gb208) (o := .cells #[.slice A1 l1.length c1] 22 (0, 0)) (by (with_reducible repeat (first | refine blk_drewN ?_ _ | refine blk_drew ?_ | refine blk_alloc ?_ _)); exact BK208.out) k_ hk⟩) _ (Nat.le_refl _)) (Below.refl _ _) (Nat.le_refl _) (by simp) ?_; (case hd => rfl); (case hg => rfl); (case hr => first | (go_simp; done) | (go_simp; rfl)); (case hp => exact (Reps.one (show Kd.FK (Kd.slice 43 (Kd.slice 5 (Kd.int .u8))) _ _ l0 [.slice A0 l0.length c0] from (Kd.FK_slice_mk (Kd.V_reads' (Kd.V_mono (ok' := (fun k_ => ((P0_ k_ ∨ P1_ k_) ∨ w.heap.size ≤ k_) ∧ k_ ≠ gb207 ∧ k_ ≠ gb208)) (HO0.out) (fun k_ hk => ⟨hk.1.1, ⟨hk.1.2, hk.2⟩⟩))).2.1 (Kd.V_F (Kd.V_mono (ok' := (fun k_ => ((P0_ k_ ∨ P1_ k_) ∨ w.heap.size ≤ k_) ∧ k_ ≠ gb207 ∧ k_ ≠ gb208)) (HO0.out) (fun k_ hk => ⟨hk.1.1, ⟨hk.1.2, hk.2⟩⟩))))) (Reps.one (show Kd.FK (Kd.slice 43 (Kd.slice 5 (Kd.int .u8))) _ _ l1 [.slice A1 l1.length c1] from (Kd.FK_slice_mk (Kd.V_reads' (Kd.V_mono (ok' := (fun k_ => ((P0_ k_ ∨ P1_ k_) ∨ w.heap.size ≤ k_) ∧ k_ ≠ gb207 ∧ k_ ≠ gb208)) (HO1.out) (fun k_ hk => ⟨hk.1.1, ⟨hk.1.2, hk.2⟩⟩))).2.1 (Kd.V_F (Kd.V_mono (ok' := (fun k_ => ((P0_ k_ ∨ P1_ k_) ∨ w.heap.size ≤ k_) ∧ k_ ≠ gb207 ∧ k_ ≠ gb208)) (HO1.out) (fun k_ hk => ⟨hk.1.1, ⟨hk.1.2, hk.2⟩⟩))))) (Reps.none _ _)))); intro v210 w8 ho9 hb hg_ hnew_; clear hg_ hnew_; (first | rw [← Ny209.out] at ho9 | (simp only [Int.reduceToNat] at ho9; rw [← Ny209.out] at ho9)); have n0_ := Aside0.mk (Kd.V_elder' (by (with_reducible repeat (first | apply Kd.V_alloc | apply Kd.V_drewN | apply Kd.V_drew)); exact HO0.out) (by first | exact Kd.N_base ho9 | exact Kd.S_base ho9 | exact Kd.R_base ho9) hb); have n1_ := Aside0.mk (Kd.V_elder' (by (with_reducible repeat (first | apply Kd.V_alloc | apply Kd.V_drewN | apply Kd.V_drew)); exact HO1.out) (by first | exact Kd.N_base ho9 | exact Kd.S_base ho9 | exact Kd.R_base ho9) hb); have n2_ := Aside0.mk (Kd.N_lower ho9 (below_size (by repeat (first | (with_reducible first | exact HB.out | apply below_alloc | apply pw_below_drewN | apply below_drew1 | refine below_set ?_ GE207.out | refine below_set ?_ GE208.out) | exact HB.out)))); have n3_ := Aside0.mk (blk_below (g := gb207) (o := .cells #[.slice A0 l0.length c0] 22 (0, 0)) (by (with_reducible repeat (first | refine blk_drewN ?_ _ | refine blk_drew ?_ | refine blk_alloc ?_ _)); exact BK207.out) hb); have n4_ := Aside0.mk (blk_below (g := gb208) (o := .cells #[.slice A1 l1.length c1] 22 (0, 0)) (by (with_reducible repeat (first | refine blk_drewN ?_ _ | refine blk_drew ?_ | refine blk_alloc ?_ _)); exact BK208.out) hb); have n5_ := Aside0.mk (below_step (by repeat (first | (with_reducible first | exact HB.out | apply below_alloc | apply pw_below_drewN | apply below_drew1 | refine below_set ?_ GE207.out | refine below_set ?_ GE208.out) | exact HB.out)) hb); clear HO0; clear HO1; clear BK207; clear BK208; clear HB; have HO0 := n0_; have HO1 := n1_; have HO211 := n2_; have BK207 := n3_; have BK208 := n4_; have HB := n5_; clear n0_ n1_ n2_ n3_ n4_ n5_; clear hb ho9; obtain ⟨Ao10, co10, eo10⟩ := Kd.N_slice HO211.out; subst eo10))
 go_loopg [13] k (fun kq v13 w' => ∃ (x13_1 : Int), v13 = .int .i64 x13_1 ∧ Aside0 (matrix_Product.l0 kq y209 (y209.length : Int) x13_1 l0 l1 = some (r1, r2)) ∧ Aside0 (kq ≤ k) ∧ Aside0 (Kd.N (Kd.slice 43 (Kd.slice 5 (Kd.int .u8))) 22 w' w.heap.size (fun k_ => ((P0_ k_ ∨ P1_ k_) ∨ w.heap.size ≤ k_) ∧ k_ ≠ gb207 ∧ k_ ≠ gb208) (.slice Ao10 y209.length co10) y209) ∧ Aside0 (Kd.V (Kd.slice 5 (Kd.int .u8)) 43 w' w.heap.size (fun k_ => ((P0_ k_ ∨ P1_ k_) ∨ w.heap.size ≤ k_) ∧ some k_ ≠ ((.slice Ao10 y209.length co10) : Value).ownBlock ∧ k_ ≠ gb207 ∧ k_ ≠ gb208) (.slice A0 l0.length c0) l0) ∧ Aside0 (Kd.V (Kd.slice 5 (Kd.int .u8)) 43 w' w.heap.size (fun k_ => ((P0_ k_ ∨ P1_ k_) ∨ w.heap.size ≤ k_) ∧ some k_ ≠ ((.slice Ao10 y209.length co10) : Value).ownBlock ∧ k_ ≠ gb207 ∧ k_ ≠ gb208) (.slice A1 l1.length c1) l1) ∧ Aside0 (w'.heap[gb207]? = some (.cells #[(.slice A0 l0.length c0)] 22 (0, 0))) ∧ Aside0 (w'.heap[gb208]? = some (.cells #[(.slice A1 l1.length c1)] 22 (0, 0))) ∧ Aside0 (Below w.heap.size w w'))
 case atStart => exact ⟨(0), (by first | rfl | (simp; done) | (simp [*]; done)), H', ⟨Nat.le_refl _⟩, ⟨by (with_reducible repeat (first | apply Kd.N_alloc | apply Kd.N_drewN | apply Kd.N_drew)); exact HO211.out⟩, ⟨by (with_reducible repeat (first | apply Kd.V_alloc | apply Kd.V_drewN | apply Kd.V_drew)); exact Kd.V_mono HO0.out (fun _ hk => ⟨hk.1.1.1, ⟨hk.2, ⟨hk.1.1.2, hk.1.2⟩⟩⟩)⟩, ⟨by (with_reducible repeat (first | apply Kd.V_alloc | apply Kd.V_drewN | apply Kd.V_drew)); exact Kd.V_mono HO1.out (fun _ hk => ⟨hk.1.1.1, ⟨hk.2, ⟨hk.1.1.2, hk.1.2⟩⟩⟩)⟩, ⟨by (with_reducible repeat (first | refine blk_drewN ?_ _ | refine blk_drew ?_ | refine blk_alloc ?_ _)); exact BK207.out⟩, ⟨by (with_reducible repeat (first | refine blk_drewN ?_ _ | refine blk_drew ?_ | refine blk_alloc ?_ _)); exact BK208.out⟩, ⟨by repeat (first | (with_reducible first | exact HB.out | apply below_alloc | apply pw_below_drewN | apply below_drew1 | refine below_set ?_ GE207.out | refine below_set ?_ GE208.out) | exact HB.out)⟩⟩
 case round =>
  clear H'
  try clear c1
  try clear c2
  try clear p2
  try clear c5
  try clear hcz6_0
  try clear hcz7_0
  try clear hfz6_0
  try clear hfz7_0
  obtain ⟨x13_1, rfl, HA, HK1, HO_11, HO_208000, HO_209000, BK207, BK208, HB⟩ := hrel
  cases gk with
  | zero => exact absurd HA.out (by simp [matrix_Product.l0])
  | succ k1 =>
   have H := HA.out
   clear HA
   simp only [matrix_Product.l0] at H
   by_cases c11 : x13_1 < (y209.length : Int)
   ·rw [if_pos c11] at H
    have c11b0 : decide (x13_1 < (y209.length : Int)) = true := decide_eq_true c11
    clear c11
    by_cases c12 : 0 ≤ x13_1
    ·rw [if_pos c12] at H
     have c12b0 : decide (0 ≤ x13_1) = true := decide_eq_true c12
     clear c12
     by_cases c13 : x13_1 < (y209.length : Int)
     ·rw [if_pos c13] at H
      have c13b0 : decide (x13_1 < (y209.length : Int)) = true := decide_eq_true c13
      clear c13
      replace H := Option.bind_eq_some_iff.mp H
      obtain ⟨t213, A140, H⟩ := H
      replace H : (if t213 = 0 then (matrix_Product.l0 k1 y209 (y209.length : Int) (wrap64 (x13_1 + 1)) l0 l1) else (some (([] : List (List Int)), t213))) = some (r1, r2) := H
      have A14 := Aside0.mk A140
      clear A140
      by_cases c15 : t213 = 0
      ·rw [if_pos c15] at H
       have c15b0 : (t213 == 0) = true := beq_iff_eq.mpr c15
       have c15b1 : (t213 != 0) = false := bne_eq_false_iff_eq.mpr c15
       clear c15
       have H' := Aside0.mk H
       clear H
       have p212 : 0 ≤ (x13_1 : Int) := of_decide_eq_true (by first | (with_reducible assumption) | assumption)
       have q212 : x13_1 < (y209.length : Int) := of_decide_eq_true (by first | (with_reducible assumption) | assumption)
       obtain ⟨ad212, A212_0, c212_0, e212, hx212_0, hl212_0, hi212_0⟩ := at_L4 (Kd.N_reads' HO_11.out).2.2 x13_1 p212 q212
       cases e212
       obtain ⟨ce212, hce212, hMe212, hcc212⟩ := Kd.N_get HO_11.out [] x13_1 p212 (by first | exact q212 | exact of_decide_eq_true (by first | (with_reducible assumption) | assumption) | (have e_ := (Kd.N_reads' HO_11.out).1; omega))
       obtain ⟨ua212_0, uc212_0, rfl, ul212_0, ge212_0⟩ := Kd.FK_slice_open hMe212
       have hv212_0 := hcc212 0 _ rfl
       rw [Nat.add_zero, show ((Kd.slice 43 (Kd.slice 5 (Kd.int .u8)))).sz = 1 from rfl, Nat.mul_one] at hv212_0
       replace hv212_0 := Option.some.inj (hv212_0.symm.trans hx212_0)
       injection hv212_0 with hva_ hvn_ hvc_
       rw [hva_] at ge212_0
       rw [hvc_] at ul212_0
       have HL212_0 := Aside0.mk (show Kd.V (Kd.slice 5 (Kd.int .u8)) 43 _ w.heap.size _ _ (rd_L4 y209 x13_1) from Kd.V_mk ul212_0 ge212_0)
       clear hva_ hvn_ hvc_ ge212_0 ul212_0
       clear hcc212 hce212
       have HR212_0 := Aside0.mk hi212_0
       have HC212_0 := Aside0.mk hl212_0
       clear hi212_0 hl212_0
       replace p212 := eq_true p212
       replace q212 := eq_true q212
       go_wp2_with (first | ((with_reducible refine gate_callee (f := 16) rfl ?_); refine goesL_ (some 18) rfl rfl Tryd.func16 (by kernel_rfl) rfl #[.slice A212_0 (rd_L4 y209 x13_1).length c212_0] rfl (by (try simp only [List.map_toArray, List.map_cons, List.map_nil]); first | done | rfl | (simp only [List.length_drop, List.length_take]; rfl)) ?_; (with_reducible refine (matrix_Check.calls k1 _ _ (rd_L4 y209 x13_1) t213 _ ?side1 ?side2 A14.out).mono ?_); (case side1 => repeat (first | exact (by repeat (first | (with_reducible exact HR212_0.out) | (with_reducible refine Kd.C_alloc ?_ _) | (with_reducible refine Kd.C_drewN ?_ _) | (with_reducible refine Kd.C_drew ?_) | exact HR212_0.out)) | (with_reducible refine Kd.C_alloc ?_ _) | (with_reducible refine Kd.C_drewN ?_ _) | (with_reducible refine Kd.C_drew ?_))); (case side2 => exact HC212_0.out); rintro e w' ⟨rfl, ⟨nd, rfl⟩⟩; refine ⟨_, rfl, ?_⟩))
       go_roundg k1
       case measure => have := HK1.out; omega
       case rel => exact ⟨(wrap64 (x13_1 + 1)), (by first | rfl | (simp; done) | (simp [*]; done)), H', ⟨by have := HK1.out; omega⟩, ⟨by (with_reducible repeat (first | apply Kd.N_alloc | apply Kd.N_drewN | apply Kd.N_drew)); exact HO_11.out⟩, ⟨by (with_reducible repeat (first | apply Kd.V_alloc | apply Kd.V_drewN | apply Kd.V_drew)); exact HO_208000.out⟩, ⟨by (with_reducible repeat (first | apply Kd.V_alloc | apply Kd.V_drewN | apply Kd.V_drew)); exact HO_209000.out⟩, ⟨by (with_reducible repeat (first | refine blk_drewN ?_ _ | refine blk_drew ?_ | refine blk_alloc ?_ _)); exact BK207.out⟩, ⟨by (with_reducible repeat (first | refine blk_drewN ?_ _ | refine blk_drew ?_ | refine blk_alloc ?_ _)); exact BK208.out⟩, ⟨by repeat (first | (with_reducible first | exact HB.out | apply below_alloc | apply pw_below_drewN | apply below_drew1 | refine below_set ?_ GE207.out | refine below_set ?_ GE208.out) | exact HB.out)⟩⟩
      ·rw [if_neg c15] at H
       have c15b0 : (t213 == 0) = false := beq_eq_false_iff_ne.mpr c15
       have c15b1 : (t213 != 0) = true := bne_iff_ne.mpr c15
       simp only [Option.some.injEq, Prod.mk.injEq] at H
       obtain ⟨rfl, rfl⟩ := H
       have p212 : 0 ≤ (x13_1 : Int) := of_decide_eq_true (by first | (with_reducible assumption) | assumption)
       have q212 : x13_1 < (y209.length : Int) := of_decide_eq_true (by first | (with_reducible assumption) | assumption)
       obtain ⟨ad212, A212_0, c212_0, e212, hx212_0, hl212_0, hi212_0⟩ := at_L4 (Kd.N_reads' HO_11.out).2.2 x13_1 p212 q212
       cases e212
       obtain ⟨ce212, hce212, hMe212, hcc212⟩ := Kd.N_get HO_11.out [] x13_1 p212 (by first | exact q212 | exact of_decide_eq_true (by first | (with_reducible assumption) | assumption) | (have e_ := (Kd.N_reads' HO_11.out).1; omega))
       obtain ⟨ua212_0, uc212_0, rfl, ul212_0, ge212_0⟩ := Kd.FK_slice_open hMe212
       have hv212_0 := hcc212 0 _ rfl
       rw [Nat.add_zero, show ((Kd.slice 43 (Kd.slice 5 (Kd.int .u8)))).sz = 1 from rfl, Nat.mul_one] at hv212_0
       replace hv212_0 := Option.some.inj (hv212_0.symm.trans hx212_0)
       injection hv212_0 with hva_ hvn_ hvc_
       rw [hva_] at ge212_0
       rw [hvc_] at ul212_0
       have HL212_0 := Aside0.mk (show Kd.V (Kd.slice 5 (Kd.int .u8)) 43 _ w.heap.size _ _ (rd_L4 y209 x13_1) from Kd.V_mk ul212_0 ge212_0)
       clear hva_ hvn_ hvc_ ge212_0 ul212_0
       clear hcc212 hce212
       have HR212_0 := Aside0.mk hi212_0
       have HC212_0 := Aside0.mk hl212_0
       clear hi212_0 hl212_0
       replace p212 := eq_true p212
       replace q212 := eq_true q212
       go_wp2_with (first | ((with_reducible refine gate_callee (f := 16) rfl ?_); refine goesL_ (some 18) rfl rfl Tryd.func16 (by kernel_rfl) rfl #[.slice A212_0 (rd_L4 y209 x13_1).length c212_0] rfl (by (try simp only [List.map_toArray, List.map_cons, List.map_nil]); first | done | rfl | (simp only [List.length_drop, List.length_take]; rfl)) ?_; (with_reducible refine (matrix_Check.calls k1 _ _ (rd_L4 y209 x13_1) t213 _ ?side1 ?side2 A14.out).mono ?_); (case side1 => repeat (first | exact (by repeat (first | (with_reducible exact HR212_0.out) | (with_reducible refine Kd.C_alloc ?_ _) | (with_reducible refine Kd.C_drewN ?_ _) | (with_reducible refine Kd.C_drew ?_) | exact HR212_0.out)) | (with_reducible refine Kd.C_alloc ?_ _) | (with_reducible refine Kd.C_drewN ?_ _) | (with_reducible refine Kd.C_drew ?_))); (case side2 => exact HC212_0.out); rintro e w' ⟨rfl, ⟨nd, rfl⟩⟩; refine ⟨_, rfl, ?_⟩))
       go_ret2
       exact ⟨_, by first | rfl | (simp [errW_none, errW_some] <;> rfl) | (simp [*, errW_none, errW_some] <;> rfl), by first | exact Kd.S_nil _ _ _ _ _ | exact Kd.N_nil _ _ _ _ _ | exact Kd.V_nil _ _ _ _ _ | exact Kd.Q_nil _ _ _ _ _ | exact Kd.R_nil _ _ _ _ _, by repeat (first | (with_reducible first | exact HB.out | apply below_alloc | apply pw_below_drewN | apply below_drew1 | refine below_set ?_ GE207.out | refine below_set ?_ GE208.out) | exact HB.out)⟩
     ·rw [if_neg c13] at H
      exact absurd H (by simp)
    ·rw [if_neg c12] at H
     exact absurd H (by simp)
   ·rw [if_neg c11] at H
    have c11b0 : decide (x13_1 < (y209.length : Int)) = false := decide_eq_false c11
    clear c11
    replace H := Option.bind_eq_some_iff.mp H
    obtain ⟨t214, A160, H⟩ := H
    replace H : (if t214 = (l1.length : Int) then ((matrix_columns.f l1).bind fun t215 => ((grid_47.f (l0.length : Int) t215 l0 l1).bind fun t216 => (some (t216, 0)))) else (some (([] : List (List Int)), 1))) = some (r1, r2) := H
    have A16 := Aside0.mk A160
    clear A160
    by_cases c17 : t214 = (l1.length : Int)
    ·rw [if_pos c17] at H
     have c17b0 : (t214 == (l1.length : Int)) = true := beq_iff_eq.mpr c17
     have c17b1 : (t214 != (l1.length : Int)) = false := bne_eq_false_iff_eq.mpr c17
     clear c17
     replace H := Option.bind_eq_some_iff.mp H
     obtain ⟨t215, A180, H⟩ := H
     replace H : ((grid_47.f (l0.length : Int) t215 l0 l1).bind fun t216 => (some (t216, 0))) = some (r1, r2) := H
     have A18 := Aside0.mk A180
     clear A180
     replace H := Option.bind_eq_some_iff.mp H
     obtain ⟨t216, A190, H⟩ := H
     replace H : (some (t216, 0)) = some (r1, r2) := H
     have A19 := Aside0.mk A190
     clear A190
     simp only [Option.some.injEq, Prod.mk.injEq] at H
     obtain ⟨rfl, rfl⟩ := H
     try go_wp2
     have n0_ := Aside0.mk (Kd.N_drew HO_11.out)
     have n1_ := Aside0.mk (Kd.V_drew HO_208000.out)
     have n2_ := Aside0.mk (Kd.V_drew HO_209000.out)
     have n3_ := Aside0.mk (blk_drew BK207.out)
     have n4_ := Aside0.mk (blk_drew BK208.out)
     have n5_ := Aside0.mk (below_drew1 HB.out)
     clear HO_11
     clear HO_208000
     clear HO_209000
     clear BK207
     clear BK208
     clear HB
     have HO_11 := n0_
     have HO_208000 := n1_
     have HO_209000 := n2_
     have BK207 := n3_
     have BK208 := n4_
     have HB := n5_
     clear n0_ n1_ n2_ n3_ n4_ n5_
     refine start_ (n := 5) (S := fun w' => w'.cell? ⟨gb207, 0, none⟩ = some (.slice A0 l0.length c0) ∧ w'.cell? ⟨gb208, 0, none⟩ = some (.slice A1 l1.length c1)) (ds := []) #[false, false, false, false, false] (by kernel_rfl) rfl rfl ⟨(blk_cell BK207.out 0).trans rfl, (blk_cell BK208.out 0).trans rfl⟩ (fun hHeld => ?_)
     generalize wr.drew = w20 at HO_11 HO_208000 HO_209000 BK207 BK208 HB hHeld ⊢
     refine take_ (i := 0) (N := some 23) (v := ?_) (a' := ?_) #[true, false, false, false, false] rfl rfl (by kernel_rfl) (fun _ _ _ h => h) (Or.inl ⟨by rfl, ?_⟩) hHeld ?_ ?_
     rotate_left
     ·rintro w' ⟨s0, s1⟩
      (try simp only [Int.toNat_natCast] at s0 s1)
      go_simp
      with_reducible rfl
     rotate_left
     ·simp only [Act.put, List.setIfInBounds_toArray, List.set_cons_zero, List.set_cons_succ, i64_w, i32_w]
      rfl
     refine take_ (i := 2) (N := some 25) (v := ?_) (a' := ?_) #[true, false, true, false, false] rfl rfl (by kernel_rfl) (fun _ _ _ h => h) (Or.inl ⟨by rfl, ?_⟩) hHeld ?_ ?_
     rotate_left
     ·rintro w' ⟨s0, s1⟩
      (try simp only [Int.toNat_natCast] at s0 s1)
      go_simp
      with_reducible rfl
     rotate_left
     ·simp only [Act.put, List.setIfInBounds_toArray, List.set_cons_zero, List.set_cons_succ, i64_w, i32_w]
      rfl
     refine pure_ (i := 3) (N := some 26) (v := ?_) (a' := ?_) #[true, false, true, true, false] rfl rfl (by kernel_rfl) (fun _ _ _ h => h) (Or.inl ⟨by rfl, ?_⟩) ?_ ?_
     rotate_left
     ·intro w'
      go_simp
      with_reducible rfl
     rotate_left
     ·simp only [Act.put, List.setIfInBounds_toArray, List.set_cons_zero, List.set_cons_succ, i64_w, i32_w]
      rfl
     refine one_ (i := 1) (N := some 24) #[true, true, true, true, false] rfl rfl (by kernel_rfl) (by decide) (fun K hK => ?_)
     refine goes_ Tryd.func36 (by kernel_rfl) rfl #[.slice A0 l0.length c0] (by rfl) rfl rfl (by (try simp only [List.map_toArray, List.map_cons, List.map_nil]); first | done | rfl | (simp only [List.length_drop, List.length_take]; rfl)) ?_
     with_reducible refine (matrix_columns.calls _ _ l0 t214 _ ?side1 ?side2 A16.out).mono ?_
     (case side1 => repeat (first | exact (Kd.V_reads' HO_208000.out).2.2 | (with_reducible refine Kd.C_alloc ?_ _) | (with_reducible refine Kd.C_drewN ?_ _) | (with_reducible refine Kd.C_drew ?_)))
     (case side2 => exact (Kd.V_reads' HO_208000.out).2.1)
     rintro e w' ⟨rfl, ⟨nd, rfl⟩⟩
     refine ⟨_, rfl, ?_⟩
     refine hK.out _ _ ⟨(blk_cell BK207.out 0).trans rfl, (blk_cell BK208.out 0).trans rfl⟩ (fun hHeld => ?_)
     clear hK K
     refine norm_ (a' := ?_) ?_ ?_
     rotate_left
     ·show Act.put _ (some 24) _ = _
      simp only [Act.put, List.setIfInBounds_toArray, List.set_cons_zero, List.set_cons_succ, i64_w, i32_w]
      rfl
     refine pure_ (i := 4) (N := some 27) (v := ?_) (a' := ?_) #[true, true, true, true, true] rfl rfl (by kernel_rfl) (fun _ _ _ h => h) (Or.inl ⟨by rfl, ?_⟩) ?_ ?_
     rotate_left
     ·intro w'
      go_simp
      with_reducible rfl
     rotate_left
     ·simp only [Act.put, List.setIfInBounds_toArray, List.set_cons_zero, List.set_cons_succ, i64_w, i32_w]
      rfl
     refine done_ (by kernel_rfl) ?_
     try go_wp2
     (try (rw [drewN_self w20]; generalize hq_ : World.drewN w20 _ = w20; have n0_ : Aside0 (Kd.N (Kd.slice 43 (Kd.slice 5 (Kd.int .u8))) 22 w20 w.heap.size (fun k_ => ((P0_ k_ ∨ P1_ k_) ∨ w.heap.size ≤ k_) ∧ k_ ≠ gb207 ∧ k_ ≠ gb208) (.slice Ao10 y209.length co10) y209) := ⟨by rw [← hq_]; exact (by (with_reducible repeat (first | apply Kd.N_alloc | apply Kd.N_drewN | apply Kd.N_drew)); exact HO_11.out)⟩; have n1_ : Aside0 (Kd.V (Kd.slice 5 (Kd.int .u8)) 43 w20 w.heap.size (fun k_ => ((P0_ k_ ∨ P1_ k_) ∨ w.heap.size ≤ k_) ∧ some k_ ≠ (.slice Ao10 y209.length co10 : Value).ownBlock ∧ k_ ≠ gb207 ∧ k_ ≠ gb208) (.slice A0 l0.length c0) l0) := ⟨by rw [← hq_]; exact (by (with_reducible repeat (first | apply Kd.V_alloc | apply Kd.V_drewN | apply Kd.V_drew)); exact HO_208000.out)⟩; have n2_ : Aside0 (Kd.V (Kd.slice 5 (Kd.int .u8)) 43 w20 w.heap.size (fun k_ => ((P0_ k_ ∨ P1_ k_) ∨ w.heap.size ≤ k_) ∧ some k_ ≠ (.slice Ao10 y209.length co10 : Value).ownBlock ∧ k_ ≠ gb207 ∧ k_ ≠ gb208) (.slice A1 l1.length c1) l1) := ⟨by rw [← hq_]; exact (by (with_reducible repeat (first | apply Kd.V_alloc | apply Kd.V_drewN | apply Kd.V_drew)); exact HO_209000.out)⟩; have n3_ : Aside0 (w20.heap[gb207]? = some (.cells #[.slice A0 l0.length c0] 22 (0, 0))) := ⟨by rw [← hq_]; exact (by (with_reducible repeat (first | refine blk_drewN ?_ _ | refine blk_drew ?_ | refine blk_alloc ?_ _)); exact BK207.out)⟩; have n4_ : Aside0 (w20.heap[gb208]? = some (.cells #[.slice A1 l1.length c1] 22 (0, 0))) := ⟨by rw [← hq_]; exact (by (with_reducible repeat (first | refine blk_drewN ?_ _ | refine blk_drew ?_ | refine blk_alloc ?_ _)); exact BK208.out)⟩; have n5_ : Aside0 (Below w.heap.size w w20) := ⟨by rw [← hq_]; exact (by repeat (first | (with_reducible first | exact HB.out | apply below_alloc | apply pw_below_drewN | apply below_drew1 | refine below_set ?_ GE207.out | refine below_set ?_ GE208.out) | exact HB.out))⟩; clear HO_11 HO_208000 HO_209000 BK207 BK208 HB hq_; have HO_11 := n0_; have HO_208000 := n1_; have HO_209000 := n2_; have BK207 := n3_; have BK208 := n4_; have HB := n5_; clear n0_ n1_ n2_ n3_ n4_ n5_))
     have n0_ := Aside0.mk (Kd.N_drew HO_11.out)
     have n1_ := Aside0.mk (Kd.V_drew HO_208000.out)
     have n2_ := Aside0.mk (Kd.V_drew HO_209000.out)
     have n3_ := Aside0.mk (blk_drew BK207.out)
     have n4_ := Aside0.mk (blk_drew BK208.out)
     have n5_ := Aside0.mk (below_drew1 HB.out)
     clear HO_11
     clear HO_208000
     clear HO_209000
     clear BK207
     clear BK208
     clear HB
     have HO_11 := n0_
     have HO_208000 := n1_
     have HO_209000 := n2_
     have BK207 := n3_
     have BK208 := n4_
     have HB := n5_
     clear n0_ n1_ n2_ n3_ n4_ n5_
     refine start_ (n := 8) (S := fun w' => w'.cell? ⟨gb207, 0, none⟩ = some (.slice A0 l0.length c0) ∧ w'.cell? ⟨gb208, 0, none⟩ = some (.slice A1 l1.length c1)) (ds := []) #[false, false, false, false, false, false, false, false] (by kernel_rfl) rfl rfl ⟨(blk_cell BK207.out 0).trans rfl, (blk_cell BK208.out 0).trans rfl⟩ (fun hHeld => ?_); refine with_tabW matrix_Product.tab10 matrix_Product.bits10 (fun HT_ HW_ => ?_)
     generalize w20.drew = w21 at HO_11 HO_208000 HO_209000 BK207 BK208 HB hHeld ⊢
     refine pure_ (i := 4) (N := some 32) (v := ?_) (a' := ?_) #[false, false, false, false, true, false, false, false] rfl rfl (any_of HT_.out (by kernel_rfl)) (fun _ _ _ h => h) (Or.inl ⟨by rfl, ?_⟩) ?_ ?_
     rotate_left
     ·intro w'
      go_simp
      with_reducible rfl
     rotate_left
     ·simp only [Act.put, List.setIfInBounds_toArray, List.set_cons_zero, List.set_cons_succ, i64_w, i32_w]
      rfl
     refine take_ (i := 0) (N := some 28) (v := ?_) (a' := ?_) #[true, false, false, false, true, false, false, false] rfl rfl (take_ofW HT_.out HW_.out (by kernel_rfl)) (fun _ _ _ h => h) (Or.inl ⟨by rfl, ?_⟩) hHeld ?_ ?_
     rotate_left
     ·rintro w' ⟨s0, s1⟩
      (try simp only [Int.toNat_natCast] at s0 s1)
      go_simp
      with_reducible rfl
     rotate_left
     ·simp only [Act.put, List.setIfInBounds_toArray, List.set_cons_zero, List.set_cons_succ, i64_w, i32_w]
      rfl
     refine pure_ (i := 1) (N := some 29) (v := ?_) (a' := ?_) #[true, true, false, false, true, false, false, false] rfl rfl (any_of HT_.out (by kernel_rfl)) (fun _ _ _ h => h) (Or.inl ⟨by rfl, ?_⟩) ?_ ?_
     rotate_left
     ·intro w'
      go_simp
      with_reducible rfl
     rotate_left
     ·simp only [Act.put, List.setIfInBounds_toArray, List.set_cons_zero, List.set_cons_succ, i64_w, i32_w]
      rfl
     refine take_ (i := 2) (N := some 30) (v := ?_) (a' := ?_) #[true, true, true, false, true, false, false, false] rfl rfl (take_ofW HT_.out HW_.out (by kernel_rfl)) (fun _ _ _ h => h) (Or.inl ⟨by rfl, ?_⟩) hHeld ?_ ?_
     rotate_left
     ·rintro w' ⟨s0, s1⟩
      (try simp only [Int.toNat_natCast] at s0 s1)
      go_simp
      with_reducible rfl
     rotate_left
     ·simp only [Act.put, List.setIfInBounds_toArray, List.set_cons_zero, List.set_cons_succ, i64_w, i32_w]
      rfl
     refine one_ (i := 3) (N := some 31) #[true, true, true, true, true, false, false, false] rfl rfl (one_of HT_.out (by kernel_rfl)) (by decide) (fun K hK => ?_)
     refine goes_ Tryd.func36 (by kernel_rfl) rfl #[.slice A1 l1.length c1] (by rfl) rfl rfl (by (try simp only [List.map_toArray, List.map_cons, List.map_nil]); first | done | rfl | (simp only [List.length_drop, List.length_take]; rfl)) ?_
     with_reducible refine (matrix_columns.calls _ _ l1 t215 _ ?side1 ?side2 A18.out).mono ?_
     (case side1 => repeat (first | exact (Kd.V_reads' HO_209000.out).2.2 | (with_reducible refine Kd.C_alloc ?_ _) | (with_reducible refine Kd.C_drewN ?_ _) | (with_reducible refine Kd.C_drew ?_)))
     (case side2 => exact (Kd.V_reads' HO_209000.out).2.1)
     rintro e w' ⟨rfl, ⟨nd, rfl⟩⟩
     refine ⟨_, rfl, ?_⟩
     refine hK.out _ _ ⟨(blk_cell BK207.out 0).trans rfl, (blk_cell BK208.out 0).trans rfl⟩ (fun hHeld => ?_)
     clear hK K
     refine norm_ (a' := ?_) ?_ ?_
     rotate_left
     ·show Act.put _ (some 31) _ = _
      simp only [Act.put, List.setIfInBounds_toArray, List.set_cons_zero, List.set_cons_succ, i64_w, i32_w]
      rfl
     refine one_ (i := 5) (N := some 33) #[true, true, true, true, true, true, false, false] rfl rfl (one_of HT_.out (by kernel_rfl)) (by decide) (fun K hK => ?_)
     refine goes_ Tryd.func35 (by kernel_rfl) rfl #[.int .i64 (l0.length : Int), .int .i64 t215, .func (.func 47) #[] #[.pointer (some ⟨gb207, 0, none⟩), .pointer (some ⟨gb208, 0, none⟩)]] (by rfl) rfl rfl (by (try simp only [List.map_toArray, List.map_cons, List.map_nil]); first | done | rfl | (simp only [List.length_drop, List.length_take]; rfl)) ?_
     with_reducible refine (grid_47.calls gb207 gb208 (l0.length : Int) t215 A0 c0 l0 A1 c1 l1 t216 _ ?side1 ?side2 ?side3 ?side4 ?side5 ?side6 ?side7 A19.out).mono ?_
     (case side1 => first | (with_reducible exact HG.out) | (with_reducible exact HighIn.drewN HG.out _) | exact HighIn.below HG.out (by repeat (first | (with_reducible first | exact HB.out | apply below_alloc | apply pw_below_drewN | apply below_drew1 | refine below_set ?_ GE207.out | refine below_set ?_ GE208.out) | exact HB.out)) | ((repeat (first | (with_reducible exact HG.out) | (with_reducible apply HighIn.drewN) | (with_reducible apply HighIn.drew) | (with_reducible apply HighIn.alloc))); done))
     (case side2 => (with_reducible repeat (first | refine blk_drewN ?_ _ | refine blk_drew ?_ | refine blk_alloc ?_ _)); exact BK207.out)
     (case side3 => (with_reducible repeat (first | refine blk_drewN ?_ _ | refine blk_drew ?_ | refine blk_alloc ?_ _)); exact BK208.out)
     (case side4 => repeat (first | exact (Kd.V_reads' HO_208000.out).2.2 | (with_reducible refine Kd.C_alloc ?_ _) | (with_reducible refine Kd.C_drewN ?_ _) | (with_reducible refine Kd.C_drew ?_)))
     (case side5 => exact (Kd.V_reads' HO_208000.out).2.1)
     (case side6 => repeat (first | exact (Kd.V_reads' HO_209000.out).2.2 | (with_reducible refine Kd.C_alloc ?_ _) | (with_reducible refine Kd.C_drewN ?_ _) | (with_reducible refine Kd.C_drew ?_)))
     (case side7 => exact (Kd.V_reads' HO_209000.out).2.1)
     rintro e w22 ⟨v217, rfl, ho0, hb⟩
     refine ⟨_, rfl, ?_⟩
     have n0_ := Aside0.mk (Kd.N_elder' (by (with_reducible repeat (first | apply Kd.N_alloc | apply Kd.N_drewN | apply Kd.N_drew)); exact HO_11.out) (by first | exact Kd.N_base ho0 | exact Kd.S_base ho0 | exact Kd.R_base ho0) hb)
     have n1_ := Aside0.mk (Kd.V_elder' (by (with_reducible repeat (first | apply Kd.V_alloc | apply Kd.V_drewN | apply Kd.V_drew)); exact HO_208000.out) (by first | exact Kd.N_base ho0 | exact Kd.S_base ho0 | exact Kd.R_base ho0) hb)
     have n2_ := Aside0.mk (Kd.V_elder' (by (with_reducible repeat (first | apply Kd.V_alloc | apply Kd.V_drewN | apply Kd.V_drew)); exact HO_209000.out) (by first | exact Kd.N_base ho0 | exact Kd.S_base ho0 | exact Kd.R_base ho0) hb)
     have n3_ := Aside0.mk (Kd.N_lower (Kd.N_mono (ok' := fun k_ => ((P0_ k_ ∨ P1_ k_) ∨ w.heap.size ≤ k_) ∧ some k_ ≠ (.slice Ao10 y209.length co10 : Value).ownBlock ∧ k_ ≠ gb207 ∧ k_ ≠ gb208) (Kd.S_N (Kd.S_bound ho0)) (fun k_ hk_ => ⟨(.inr (Nat.le_trans (below_size (by repeat (first | (with_reducible first | exact HB.out | apply below_alloc | apply pw_below_drewN | apply below_drew1 | refine below_set ?_ GE207.out | refine below_set ?_ GE208.out) | exact HB.out))) hk_.2.1)), (Kd.fresh' (Kd.N_lt (by (with_reducible repeat (first | apply Kd.N_alloc | apply Kd.N_drewN | apply Kd.N_drew)); exact HO_11.out)) k_ hk_.2.1), (Kd.freshB (g := gb207) (o := .cells #[.slice A0 l0.length c0] 22 (0, 0)) (by (with_reducible repeat (first | refine blk_drewN ?_ _ | refine blk_drew ?_ | refine blk_alloc ?_ _)); exact BK207.out) k_ hk_.2.1), (Kd.freshB (g := gb208) (o := .cells #[.slice A1 l1.length c1] 22 (0, 0)) (by (with_reducible repeat (first | refine blk_drewN ?_ _ | refine blk_drew ?_ | refine blk_alloc ?_ _)); exact BK208.out) k_ hk_.2.1)⟩)) (below_size (by repeat (first | (with_reducible first | exact HB.out | apply below_alloc | apply pw_below_drewN | apply below_drew1 | refine below_set ?_ GE207.out | refine below_set ?_ GE208.out) | exact HB.out))))
     have n4_ := Aside0.mk (blk_below (g := gb207) (o := .cells #[.slice A0 l0.length c0] 22 (0, 0)) (by (with_reducible repeat (first | refine blk_drewN ?_ _ | refine blk_drew ?_ | refine blk_alloc ?_ _)); exact BK207.out) hb)
     have n5_ := Aside0.mk (blk_below (g := gb208) (o := .cells #[.slice A1 l1.length c1] 22 (0, 0)) (by (with_reducible repeat (first | refine blk_drewN ?_ _ | refine blk_drew ?_ | refine blk_alloc ?_ _)); exact BK208.out) hb)
     have n6_ := Aside0.mk (below_step (by repeat (first | (with_reducible first | exact HB.out | apply below_alloc | apply pw_below_drewN | apply below_drew1 | refine below_set ?_ GE207.out | refine below_set ?_ GE208.out) | exact HB.out)) hb)
     clear HO_11
     clear HO_208000
     clear HO_209000
     clear BK207
     clear BK208
     clear HB
     have HO_11 := n0_
     have HO_208000 := n1_
     have HO_209000 := n2_
     have HO218 := n3_
     have BK207 := n4_
     have BK208 := n5_
     have HB := n6_
     clear n0_ n1_ n2_ n3_ n4_ n5_ n6_
     (try clear hb)
     (try clear hb2)
     (try clear hk)
     (try clear hi)
     (try clear ho0)
     refine hK.out _ _ ⟨(blk_cell BK207.out 0).trans rfl, (blk_cell BK208.out 0).trans rfl⟩ (fun hHeld => ?_)
     clear hK K
     refine norm_ (a' := ?_) ?_ ?_
     rotate_left
     ·show Act.put _ (some 33) _ = _
      simp only [Act.put, List.setIfInBounds_toArray, List.set_cons_zero, List.set_cons_succ, i64_w, i32_w]
      rfl
     refine pure_ (i := 6) (N := some 4) (v := ?_) (a' := ?_) #[true, true, true, true, true, true, true, false] rfl rfl (any_of HT_.out (by kernel_rfl)) (fun _ _ _ h => h) (Or.inl ⟨by rfl, ?_⟩) ?_ ?_
     rotate_left
     ·intro w'
      go_simp
      with_reducible rfl
     rotate_left
     ·simp only [Act.put, List.setIfInBounds_toArray, List.set_cons_zero, List.set_cons_succ, i64_w, i32_w]
      rfl
     refine pure_ (i := 7) (N := some 5) (v := ?_) (a' := ?_) #[true, true, true, true, true, true, true, true] rfl rfl (any_of HT_.out (by kernel_rfl)) (fun _ _ _ h => h) (Or.inl ⟨by rfl, ?_⟩) ?_ ?_
     rotate_left
     ·intro w'
      go_simp
      with_reducible rfl
     rotate_left
     ·simp only [Act.put, List.setIfInBounds_toArray, List.set_cons_zero, List.set_cons_succ, i64_w, i32_w]
      rfl
     refine done_ (done_of HT_.out (by kernel_rfl)) ?_
     try go_wp2
     go_ret2
     exact ⟨_, by first | rfl | (simp [errW_none, errW_some] <;> rfl) | (simp [*, errW_none, errW_some] <;> rfl), by (with_reducible repeat (first | apply Kd.N_alloc | apply Kd.N_drewN | apply Kd.N_drew)); exact Kd.N_mono HO218.out (fun _ hk => hk.1), by repeat (first | (with_reducible first | exact HB.out | apply below_alloc | apply pw_below_drewN | apply below_drew1 | refine below_set ?_ GE207.out | refine below_set ?_ GE208.out) | exact HB.out)⟩
    ·rw [if_neg c17] at H
     have c17b0 : (t214 == (l1.length : Int)) = false := beq_eq_false_iff_ne.mpr c17
     have c17b1 : (t214 != (l1.length : Int)) = true := bne_iff_ne.mpr c17
     simp only [Option.some.injEq, Prod.mk.injEq] at H
     obtain ⟨rfl, rfl⟩ := H
     try go_wp2
     have n0_ := Aside0.mk (Kd.N_drew HO_11.out)
     have n1_ := Aside0.mk (Kd.V_drew HO_208000.out)
     have n2_ := Aside0.mk (Kd.V_drew HO_209000.out)
     have n3_ := Aside0.mk (blk_drew BK207.out)
     have n4_ := Aside0.mk (blk_drew BK208.out)
     have n5_ := Aside0.mk (below_drew1 HB.out)
     clear HO_11
     clear HO_208000
     clear HO_209000
     clear BK207
     clear BK208
     clear HB
     have HO_11 := n0_
     have HO_208000 := n1_
     have HO_209000 := n2_
     have BK207 := n3_
     have BK208 := n4_
     have HB := n5_
     clear n0_ n1_ n2_ n3_ n4_ n5_
     refine start_ (n := 5) (S := fun w' => w'.cell? ⟨gb207, 0, none⟩ = some (.slice A0 l0.length c0) ∧ w'.cell? ⟨gb208, 0, none⟩ = some (.slice A1 l1.length c1)) (ds := []) #[false, false, false, false, false] (by kernel_rfl) rfl rfl ⟨(blk_cell BK207.out 0).trans rfl, (blk_cell BK208.out 0).trans rfl⟩ (fun hHeld => ?_)
     generalize wr.drew = w23 at HO_11 HO_208000 HO_209000 BK207 BK208 HB hHeld ⊢
     refine take_ (i := 0) (N := some 23) (v := ?_) (a' := ?_) #[true, false, false, false, false] rfl rfl (by kernel_rfl) (fun _ _ _ h => h) (Or.inl ⟨by rfl, ?_⟩) hHeld ?_ ?_
     rotate_left
     ·rintro w' ⟨s0, s1⟩
      (try simp only [Int.toNat_natCast] at s0 s1)
      go_simp
      with_reducible rfl
     rotate_left
     ·simp only [Act.put, List.setIfInBounds_toArray, List.set_cons_zero, List.set_cons_succ, i64_w, i32_w]
      rfl
     refine take_ (i := 2) (N := some 25) (v := ?_) (a' := ?_) #[true, false, true, false, false] rfl rfl (by kernel_rfl) (fun _ _ _ h => h) (Or.inl ⟨by rfl, ?_⟩) hHeld ?_ ?_
     rotate_left
     ·rintro w' ⟨s0, s1⟩
      (try simp only [Int.toNat_natCast] at s0 s1)
      go_simp
      with_reducible rfl
     rotate_left
     ·simp only [Act.put, List.setIfInBounds_toArray, List.set_cons_zero, List.set_cons_succ, i64_w, i32_w]
      rfl
     refine pure_ (i := 3) (N := some 26) (v := ?_) (a' := ?_) #[true, false, true, true, false] rfl rfl (by kernel_rfl) (fun _ _ _ h => h) (Or.inl ⟨by rfl, ?_⟩) ?_ ?_
     rotate_left
     ·intro w'
      go_simp
      with_reducible rfl
     rotate_left
     ·simp only [Act.put, List.setIfInBounds_toArray, List.set_cons_zero, List.set_cons_succ, i64_w, i32_w]
      rfl
     refine one_ (i := 1) (N := some 24) #[true, true, true, true, false] rfl rfl (by kernel_rfl) (by decide) (fun K hK => ?_)
     refine goes_ Tryd.func36 (by kernel_rfl) rfl #[.slice A0 l0.length c0] (by rfl) rfl rfl (by (try simp only [List.map_toArray, List.map_cons, List.map_nil]); first | done | rfl | (simp only [List.length_drop, List.length_take]; rfl)) ?_
     with_reducible refine (matrix_columns.calls _ _ l0 t214 _ ?side1 ?side2 A16.out).mono ?_
     (case side1 => repeat (first | exact (Kd.V_reads' HO_208000.out).2.2 | (with_reducible refine Kd.C_alloc ?_ _) | (with_reducible refine Kd.C_drewN ?_ _) | (with_reducible refine Kd.C_drew ?_)))
     (case side2 => exact (Kd.V_reads' HO_208000.out).2.1)
     rintro e w' ⟨rfl, ⟨nd, rfl⟩⟩
     refine ⟨_, rfl, ?_⟩
     refine hK.out _ _ ⟨(blk_cell BK207.out 0).trans rfl, (blk_cell BK208.out 0).trans rfl⟩ (fun hHeld => ?_)
     clear hK K
     refine norm_ (a' := ?_) ?_ ?_
     rotate_left
     ·show Act.put _ (some 24) _ = _
      simp only [Act.put, List.setIfInBounds_toArray, List.set_cons_zero, List.set_cons_succ, i64_w, i32_w]
      rfl
     refine pure_ (i := 4) (N := some 27) (v := ?_) (a' := ?_) #[true, true, true, true, true] rfl rfl (by kernel_rfl) (fun _ _ _ h => h) (Or.inl ⟨by rfl, ?_⟩) ?_ ?_
     rotate_left
     ·intro w'
      go_simp
      with_reducible rfl
     rotate_left
     ·simp only [Act.put, List.setIfInBounds_toArray, List.set_cons_zero, List.set_cons_succ, i64_w, i32_w]
      rfl
     refine done_ (by kernel_rfl) ?_
     try go_wp2
     go_ret2
     exact ⟨_, by first | rfl | (simp [errW_none, errW_some] <;> rfl) | (simp [*, errW_none, errW_some] <;> rfl), by first | exact Kd.S_nil _ _ _ _ _ | exact Kd.N_nil _ _ _ _ _ | exact Kd.V_nil _ _ _ _ _ | exact Kd.Q_nil _ _ _ _ _ | exact Kd.R_nil _ _ _ _ _, by repeat (first | (with_reducible first | exact HB.out | apply below_alloc | apply pw_below_drewN | apply below_drew1 | refine below_set ?_ GE207.out | refine below_set ?_ GE208.out) | exact HB.out)⟩
mutual
def quietusref05_Check.l0 : Nat → List (List Int) → Int → Option (Int)
 | 0, _, _ => none
 | k + 1, x0, x3 => if x3 < (x0.length : Int) then (if 0 ≤ x3 then (if ((rd_L1 x0 x3).length : Int) > 48 then (some 2) else (quietusref05_Check.l0 k x0 (wrap64 (x3 + 1)))) else (none)) else (quietusref05_Check.l1 k x0 0)
def quietusref05_Check.l1 : Nat → List (List Int) → Int → Option (Int)
 | 0, _, _ => none
 | k + 1, x0, x4 => if x4 < (x0.length : Int) then (if 0 ≤ x4 then (if 0 < (x0.length : Int) then (if ((rd_L1 x0 x4).length : Int) = ((rd_L1 x0 0).length : Int) then (quietusref05_Check.l1 k x0 (wrap64 (x4 + 1))) else (some 1)) else (none)) else (none)) else (some 0)
end
def quietusref05_Check.f (k : Nat) (l0 : List (List Int)) : Option (Int) := if (l0.length : Int) > 48 then (some 2) else (quietusref05_Check.l0 k l0 0)
theorem quietusref05_Check.mono_l : ∀ k, (∀ y0 y1, LeO (quietusref05_Check.l0 k y0 y1) (quietusref05_Check.l0 (k + 1) y0 y1)) ∧ (∀ y0 y1, LeO (quietusref05_Check.l1 k y0 y1) (quietusref05_Check.l1 (k + 1) y0 y1))
 | 0 => ⟨fun _ _ r h => by simp [quietusref05_Check.l0] at h, fun _ _ r h => by simp [quietusref05_Check.l1] at h⟩
 | k + 1 => by
  obtain ⟨ih0, ih1⟩ := quietusref05_Check.mono_l k
  refine ⟨?_, ?_⟩
  ·intro y0 y1
   unfold quietusref05_Check.l0
   repeat' first
   | (with_reducible exact ih0 _ _)
   | (with_reducible exact ih1 _ _)
   | (with_reducible exact LeO.refl _)
   | (with_reducible exact LeO.none _)
   | (with_reducible refine LeO.ite ?_ ?_)
   | (with_reducible refine LeO.bind ?_ (fun _ => ?_))
   | exact ih0 _ _
   | exact ih1 _ _
   | exact LeO.none _
   | refine LeO.ite ?_ ?_
   | refine LeO.bind ?_ (fun _ => ?_)
  ·intro y0 y1
   unfold quietusref05_Check.l1
   repeat' first
   | (with_reducible exact ih0 _ _)
   | (with_reducible exact ih1 _ _)
   | (with_reducible exact LeO.refl _)
   | (with_reducible exact LeO.none _)
   | (with_reducible refine LeO.ite ?_ ?_)
   | (with_reducible refine LeO.bind ?_ (fun _ => ?_))
   | exact ih0 _ _
   | exact ih1 _ _
   | exact LeO.none _
   | refine LeO.ite ?_ ?_
   | refine LeO.bind ?_ (fun _ => ?_)
theorem quietusref05_Check.mono : ∀ a0 k, LeO (quietusref05_Check.f k a0) (quietusref05_Check.f (k + 1) a0) := by
 intro a0 k
 obtain ⟨ih0, ih1⟩ := quietusref05_Check.mono_l k
 unfold quietusref05_Check.f
 repeat' first
   | (with_reducible exact ih0 _ _)
   | (with_reducible exact ih1 _ _)
   | (with_reducible exact LeO.refl _)
   | (with_reducible exact LeO.none _)
   | (with_reducible refine LeO.ite ?_ ?_)
   | (with_reducible refine LeO.bind ?_ (fun _ => ?_))
   | exact ih0 _ _
   | exact ih1 _ _
   | exact LeO.none _
   | refine LeO.ite ?_ ?_
   | refine LeO.bind ?_ (fun _ => ?_)
set_option maxHeartbeats 8000000 in
set_option maxRecDepth 100000 in
theorem quietusref05_Check.calls (k : Nat) (A0 : Option Addr) (c0 : Nat) (l0 : List (List Int)) (r : Int) (w : World) (hr0 : Kd.C (Kd.slice 5 (Kd.int .u8)) w A0 l0.length l0) (hc0 : l0.length ≤ c0) (h : quietusref05_Check.f k l0 = some r) :
  Calls Tryd.prog 12 #[.slice A0 l0.length c0] w fun e w' => e = .returned (.int .i64 r) ∧ Drawn0 w w' := by
 have HR0 := Aside0.mk hr0
 have HC0 := Aside0.mk hc0
 clear hr0 hc0
 have H : (if (l0.length : Int) > 48 then (some 2) else (quietusref05_Check.l0 k l0 0)) = some r := h
 clear h
 by_cases c2 : (l0.length : Int) > 48
 ·rw [if_pos c2] at H
  have c2b0 : decide (48 < (l0.length : Int)) = true := decide_eq_true c2
  have c2b1 : decide (48 < l0.length) = true := decide_eq_true (by omega)
  clear c2
  obtain rfl := Option.some.inj H
  go_enter Tryd.func12, Tryd.ntmps12
  go_wp2
  repeat (go_quiet (fail); try go_wp2)
  go_ret
  exact ⟨by first | rfl | (simp; done) | (simp [*]; done), by repeat (first | exact Drawn0.refl _ | apply Drawn0.step)⟩
 ·rw [if_neg c2] at H
  have c2b0 : decide (48 < (l0.length : Int)) = false := decide_eq_false c2
  have c2b1 : decide (48 < l0.length) = false := decide_eq_false (by omega)
  clear c2
  have H' := Aside0.mk H
  clear H
  go_enter Tryd.func12, Tryd.ntmps12
  go_wp2
  repeat (go_quiet (fail); try go_wp2)
  go_loopg [3] k (fun kq v3 w' => ∃ (x3_1 : Int), v3 = .int .i64 x3_1 ∧ Aside0 (quietusref05_Check.l0 kq l0 x3_1 = some r) ∧ Aside0 (kq ≤ k) ∧ Drawn0 w w')
  case atStart => exact ⟨(0), (by first | rfl | (simp; done) | (simp [*]; done)), H', ⟨Nat.le_refl _⟩, by repeat (first | exact Drawn0.refl _ | apply Drawn0.step)⟩
  case round =>
   clear H'
   try clear c1
   try clear c2
   try clear c2b0
   try clear c2b1
   try clear p2
   obtain ⟨x3_1, rfl, HA, HK1, ⟨m1, rfl⟩⟩ := hrel
   cases gk with
   | zero => exact absurd HA.out (by simp [quietusref05_Check.l0])
   | succ k1 =>
    have H := HA.out
    clear HA
    simp only [quietusref05_Check.l0] at H
    by_cases c3 : x3_1 < (l0.length : Int)
    ·rw [if_pos c3] at H
     have c3b0 : decide (x3_1 < (l0.length : Int)) = true := decide_eq_true c3
     clear c3
     by_cases c4 : 0 ≤ x3_1
     ·rw [if_pos c4] at H
      have c4b0 : decide (0 ≤ x3_1) = true := decide_eq_true c4
      clear c4
      by_cases c5 : ((rd_L1 l0 x3_1).length : Int) > 48
      ·rw [if_pos c5] at H
       have c5b0 : decide (48 < ((rd_L1 l0 x3_1).length : Int)) = true := decide_eq_true c5
       have c5b1 : decide (48 < (rd_L1 l0 x3_1).length) = true := decide_eq_true (by omega)
       clear c5
       obtain rfl := Option.some.inj H
       have p219 : 0 ≤ (x3_1 : Int) := of_decide_eq_true (by first | (with_reducible assumption) | assumption)
       have q219 : x3_1 < (l0.length : Int) := of_decide_eq_true (by first | (with_reducible assumption) | assumption)
       obtain ⟨ad219, A219_0, c219_0, e219, hx219_0, hl219_0, hi219_0⟩ := at_L1 HR0.out x3_1 p219 q219
       cases e219
       have HR219_0 := Aside0.mk hi219_0
       have HC219_0 := Aside0.mk hl219_0
       clear hi219_0 hl219_0
       replace p219 := eq_true p219
       replace q219 := eq_true q219
       go_wp2
       repeat (go_quiet (fail); try go_wp2)
       go_ret
       exact ⟨by first | rfl | (simp; done) | (simp [*]; done), by repeat (first | exact Drawn0.refl _ | apply Drawn0.step)⟩
      ·rw [if_neg c5] at H
       have c5b0 : decide (48 < ((rd_L1 l0 x3_1).length : Int)) = false := decide_eq_false c5
       have c5b1 : decide (48 < (rd_L1 l0 x3_1).length) = false := decide_eq_false (by omega)
       clear c5
       have H' := Aside0.mk H
       clear H
       have p219 : 0 ≤ (x3_1 : Int) := of_decide_eq_true (by first | (with_reducible assumption) | assumption)
       have q219 : x3_1 < (l0.length : Int) := of_decide_eq_true (by first | (with_reducible assumption) | assumption)
       obtain ⟨ad219, A219_0, c219_0, e219, hx219_0, hl219_0, hi219_0⟩ := at_L1 HR0.out x3_1 p219 q219
       cases e219
       have HR219_0 := Aside0.mk hi219_0
       have HC219_0 := Aside0.mk hl219_0
       clear hi219_0 hl219_0
       replace p219 := eq_true p219
       replace q219 := eq_true q219
       go_wp2
       repeat (go_quiet (fail); try go_wp2)
       go_roundg k1
       case measure => have := HK1.out; omega
       case rel => exact ⟨(wrap64 (x3_1 + 1)), (by first | rfl | (simp; done) | (simp [*]; done)), H', ⟨by have := HK1.out; omega⟩, by repeat (first | exact Drawn0.refl _ | apply Drawn0.step)⟩
     ·rw [if_neg c4] at H
      exact absurd H (by simp)
    ·rw [if_neg c3] at H
     have c3b0 : decide (x3_1 < (l0.length : Int)) = false := decide_eq_false c3
     clear c3
     have H' := Aside0.mk H
     clear H
     go_wp2
     repeat (go_quiet (fail); try go_wp2)
     go_loopg [4] k1 (fun kq v4 w' => ∃ (x4_2 : Int), v4 = .int .i64 x4_2 ∧ Aside0 (quietusref05_Check.l1 kq l0 x4_2 = some r) ∧ Aside0 (kq ≤ k1) ∧ Drawn0 w w')
     case atStart => exact ⟨(0), (by first | rfl | (simp; done) | (simp [*]; done)), H', ⟨Nat.le_refl _⟩, by repeat (first | exact Drawn0.refl _ | apply Drawn0.step)⟩
     case round =>
      clear H'
      try clear c1
      try clear c2
      try clear c2b0
      try clear c2b1
      try clear p2
      try clear q2
      try clear hx2
      try clear c3
      try clear c3b0
      try clear c4
      try clear c4b0
      try clear c5
      try clear c5b0
      try clear c5b1
      try clear hx219_0
      try clear p2
      try clear p219
      try clear q219
      obtain ⟨x4_2, rfl, HA, HK2, ⟨m2, rfl⟩⟩ := hrel
      cases gk with
      | zero => exact absurd HA.out (by simp [quietusref05_Check.l1])
      | succ k2 =>
       have H := HA.out
       clear HA
       simp only [quietusref05_Check.l1] at H
       by_cases c6 : x4_2 < (l0.length : Int)
       ·rw [if_pos c6] at H
        have c6b0 : decide (x4_2 < (l0.length : Int)) = true := decide_eq_true c6
        clear c6
        by_cases c7 : 0 ≤ x4_2
        ·rw [if_pos c7] at H
         have c7b0 : decide (0 ≤ x4_2) = true := decide_eq_true c7
         clear c7
         by_cases c8 : 0 < (l0.length : Int)
         ·rw [if_pos c8] at H
          have c8b0 : decide (0 < (l0.length : Int)) = true := decide_eq_true c8
          have c8b1 : decide (0 < l0.length) = true := decide_eq_true (by omega)
          clear c8
          by_cases c9 : ((rd_L1 l0 x4_2).length : Int) = ((rd_L1 l0 0).length : Int)
          ·rw [if_pos c9] at H
           have c9b0 : (((rd_L1 l0 x4_2).length : Int) == ((rd_L1 l0 0).length : Int)) = true := beq_iff_eq.mpr c9
           have c9b1 : (((rd_L1 l0 x4_2).length : Int) != ((rd_L1 l0 0).length : Int)) = false := bne_eq_false_iff_eq.mpr c9
           have c9b2 : ((rd_L1 l0 x4_2).length == (rd_L1 l0 0).length) = true := by first | simpa using c9 | (simp at c9 ⊢; omega)
           clear c9
           have H' := Aside0.mk H
           clear H
           have p220 : 0 ≤ (x4_2 : Int) := of_decide_eq_true (by first | (with_reducible assumption) | assumption)
           have q220 : x4_2 < (l0.length : Int) := of_decide_eq_true (by first | (with_reducible assumption) | assumption)
           obtain ⟨ad220, A220_0, c220_0, e220, hx220_0, hl220_0, hi220_0⟩ := at_L1 HR0.out x4_2 p220 q220
           cases e220
           have HR220_0 := Aside0.mk hi220_0
           have HC220_0 := Aside0.mk hl220_0
           clear hi220_0 hl220_0
           replace p220 := eq_true p220
           replace q220 := eq_true q220
           have p221 : 0 ≤ (0 : Int) := (by omega)
           have q221 : 0 < (l0.length : Int) := of_decide_eq_true (by first | (with_reducible assumption) | assumption)
           obtain ⟨ad221, A221_0, c221_0, e221, hx221_0, hl221_0, hi221_0⟩ := at_L1 HR0.out 0 p221 q221
           obtain rfl : ad220 = ad221 := (by injection e221)
           have qi221 : (0 < l0.length) = True := eq_true (by omega)
           (try rw [show ((0 : Int)).toNat = 0 from rfl] at hx221_0)
           (try rw [Addr.add_zero'] at hx221_0)
           have HR221_0 := Aside0.mk hi221_0
           have HC221_0 := Aside0.mk hl221_0
           clear hi221_0 hl221_0
           replace p221 := eq_true p221
           replace q221 := eq_true q221
           go_wp2
           repeat (go_quiet (fail); try go_wp2)
           go_roundg k2
           case measure => have := HK1.out; have := HK2.out; omega
           case rel => exact ⟨(wrap64 (x4_2 + 1)), (by first | rfl | (simp; done) | (simp [*]; done)), H', ⟨by have := HK1.out; have := HK2.out; omega⟩, by repeat (first | exact Drawn0.refl _ | apply Drawn0.step)⟩
          ·rw [if_neg c9] at H
           have c9b0 : (((rd_L1 l0 x4_2).length : Int) == ((rd_L1 l0 0).length : Int)) = false := beq_eq_false_iff_ne.mpr c9
           have c9b1 : (((rd_L1 l0 x4_2).length : Int) != ((rd_L1 l0 0).length : Int)) = true := bne_iff_ne.mpr c9
           have c9b2 : ((rd_L1 l0 x4_2).length == (rd_L1 l0 0).length) = false := by first | simpa using c9 | (simp at c9 ⊢; omega)
           obtain rfl := Option.some.inj H
           have p220 : 0 ≤ (x4_2 : Int) := of_decide_eq_true (by first | (with_reducible assumption) | assumption)
           have q220 : x4_2 < (l0.length : Int) := of_decide_eq_true (by first | (with_reducible assumption) | assumption)
           obtain ⟨ad220, A220_0, c220_0, e220, hx220_0, hl220_0, hi220_0⟩ := at_L1 HR0.out x4_2 p220 q220
           cases e220
           have HR220_0 := Aside0.mk hi220_0
           have HC220_0 := Aside0.mk hl220_0
           clear hi220_0 hl220_0
           replace p220 := eq_true p220
           replace q220 := eq_true q220
           have p221 : 0 ≤ (0 : Int) := (by omega)
           have q221 : 0 < (l0.length : Int) := of_decide_eq_true (by first | (with_reducible assumption) | assumption)
           obtain ⟨ad221, A221_0, c221_0, e221, hx221_0, hl221_0, hi221_0⟩ := at_L1 HR0.out 0 p221 q221
           obtain rfl : ad220 = ad221 := (by injection e221)
           have qi221 : (0 < l0.length) = True := eq_true (by omega)
           (try rw [show ((0 : Int)).toNat = 0 from rfl] at hx221_0)
           (try rw [Addr.add_zero'] at hx221_0)
           have HR221_0 := Aside0.mk hi221_0
           have HC221_0 := Aside0.mk hl221_0
           clear hi221_0 hl221_0
           replace p221 := eq_true p221
           replace q221 := eq_true q221
           go_wp2
           repeat (go_quiet (fail); try go_wp2)
           go_ret
           exact ⟨by first | rfl | (simp; done) | (simp [*]; done), by repeat (first | exact Drawn0.refl _ | apply Drawn0.step)⟩
         ·rw [if_neg c8] at H
          exact absurd H (by simp)
        ·rw [if_neg c7] at H
         exact absurd H (by simp)
       ·rw [if_neg c6] at H
        have c6b0 : decide (x4_2 < (l0.length : Int)) = false := decide_eq_false c6
        clear c6
        obtain rfl := Option.some.inj H
        go_wp2
        repeat (go_quiet (fail); try go_wp2)
        go_ret
        exact ⟨by first | rfl | (simp; done) | (simp [*]; done), by repeat (first | exact Drawn0.refl _ | apply Drawn0.step)⟩
def quietusref05_Columns.f (l0 : List (List Int)) : Option (Int) := if (l0.length : Int) = 0 then (some 0) else (if 0 < (l0.length : Int) then (some ((rd_L1 l0 0).length : Int)) else (none))
set_option maxHeartbeats 8000000 in
set_option maxRecDepth 100000 in
theorem quietusref05_Columns.calls (A0 : Option Addr) (c0 : Nat) (l0 : List (List Int)) (r : Int) (w : World) (hr0 : Kd.C (Kd.slice 5 (Kd.int .u8)) w A0 l0.length l0) (hc0 : l0.length ≤ c0) (h : quietusref05_Columns.f l0 = some r) :
  Calls Tryd.prog 30 #[.slice A0 l0.length c0] w fun e w' => e = .returned (.int .i64 r) ∧ Drawn0 w w' := by
 have HR0 := Aside0.mk hr0
 have HC0 := Aside0.mk hc0
 clear hr0 hc0
 have H : (if (l0.length : Int) = 0 then (some 0) else (if 0 < (l0.length : Int) then (some ((rd_L1 l0 0).length : Int)) else (none))) = some r := h
 clear h
 by_cases c2 : (l0.length : Int) = 0
 ·rw [if_pos c2] at H
  have c2b0 : ((l0.length : Int) == 0) = true := beq_iff_eq.mpr c2
  have c2b1 : ((l0.length : Int) != 0) = false := bne_eq_false_iff_eq.mpr c2
  clear c2
  obtain rfl := Option.some.inj H
  go_enter Tryd.func30, Tryd.ntmps30
  go_wp2
  go_ret
  exact ⟨by first | rfl | (simp; done) | (simp [*]; done), by repeat (first | exact Drawn0.refl _ | apply Drawn0.step)⟩
 ·rw [if_neg c2] at H
  have c2b0 : ((l0.length : Int) == 0) = false := beq_eq_false_iff_ne.mpr c2
  have c2b1 : ((l0.length : Int) != 0) = true := bne_iff_ne.mpr c2
  have c2b2 : ¬ (l0 = []) := fun h_ => c2 (by rw [h_]; rfl)
  by_cases c3 : 0 < (l0.length : Int)
  ·rw [if_pos c3] at H
   have c3b0 : decide (0 < (l0.length : Int)) = true := decide_eq_true c3
   have c3b1 : decide (0 < l0.length) = true := decide_eq_true (by omega)
   clear c3
   obtain rfl := Option.some.inj H
   have p222 : 0 ≤ (0 : Int) := (by omega)
   have q222 : 0 < (l0.length : Int) := of_decide_eq_true (by first | (with_reducible assumption) | assumption)
   obtain ⟨ad222, A222_0, c222_0, e222, hx222_0, hl222_0, hi222_0⟩ := at_L1 HR0.out 0 p222 q222
   cases e222
   have qi222 : (0 < l0.length) = True := eq_true (by omega)
   (try rw [show ((0 : Int)).toNat = 0 from rfl] at hx222_0)
   (try rw [Addr.add_zero'] at hx222_0)
   have HR222_0 := Aside0.mk hi222_0
   have HC222_0 := Aside0.mk hl222_0
   clear hi222_0 hl222_0
   replace p222 := eq_true p222
   replace q222 := eq_true q222
   go_enter Tryd.func30, Tryd.ntmps30
   go_wp2
   go_ret
   exact ⟨by first | rfl | (simp; done) | (simp [*]; done), by repeat (first | exact Drawn0.refl _ | apply Drawn0.step)⟩
  ·rw [if_neg c3] at H
   exact absurd H (by simp)
end Go.Proofs.YtijebgceopddmaaDoor.Pa
end
section
namespace Go.Proofs.YtijebgceopddmaaDoor.Pa
open Go.RowKit Go.Proofs.YtijebgceopddmaaDoor.Gf Go.Proofs.YtijebgceopddmaaDoor.Pr Go.Proofs.YtijebgceopddmaaDoorW.PrintWords Go.Proofs.YtijebgceopddmaaDoorW.PrintLast Go.Proofs.YtijebgceopddmaaDoorW.PrintMore
attribute [local go_sem] max2_int min2_int max_two min_two max_three min_three max_four min_four   -- for this text's walks alone
set_option linter.unusedVariables false
set_option linter.unusedSimpArgs false
def quietusref04_Mul.l0 : Nat → Int → Int → Int → Option (Int)
 | 0, _, _, _ => none
 | k + 1, x5, x6, x7 => if x6 > 0 then (if (Int.tmod x6 2) = 1 then (if (wrap64 (2 * x5)) > 255 then (quietusref04_Mul.l0 k (Go.bits .xor .i64 (wrap64 (2 * x5)) 285) (wrap64 (Int.tdiv x6 2)) (Go.bits .xor .i64 x7 x5)) else (quietusref04_Mul.l0 k (wrap64 (2 * x5)) (wrap64 (Int.tdiv x6 2)) (Go.bits .xor .i64 x7 x5))) else (if (wrap64 (2 * x5)) > 255 then (quietusref04_Mul.l0 k (Go.bits .xor .i64 (wrap64 (2 * x5)) 285) (wrap64 (Int.tdiv x6 2)) x7) else (quietusref04_Mul.l0 k (wrap64 (2 * x5)) (wrap64 (Int.tdiv x6 2)) x7))) else (some ((x7) % 256))
def quietusref04_Mul.f (k : Nat) (a0 : Int) (a1 : Int) : Option (Int) := quietusref04_Mul.l0 k (wrap64 (a0)) (wrap64 (a1)) 0
theorem quietusref04_Mul.mono_l : ∀ k, (∀ y0 y1 y2, LeO (quietusref04_Mul.l0 k y0 y1 y2) (quietusref04_Mul.l0 (k + 1) y0 y1 y2))
 | 0 => fun _ _ _ r h => by simp [quietusref04_Mul.l0] at h
 | k + 1 => by
  have ih0 := quietusref04_Mul.mono_l k
  ·intro y0 y1 y2
   unfold quietusref04_Mul.l0
   repeat' first
   | (with_reducible exact ih0 _ _ _)
   | (with_reducible exact LeO.refl _)
   | (with_reducible exact LeO.none _)
   | (with_reducible refine LeO.ite ?_ ?_)
   | (with_reducible refine LeO.bind ?_ (fun _ => ?_))
   | exact ih0 _ _ _
   | exact LeO.none _
   | refine LeO.ite ?_ ?_
   | refine LeO.bind ?_ (fun _ => ?_)
theorem quietusref04_Mul.mono : ∀ a0 a1 k, LeO (quietusref04_Mul.f k a0 a1) (quietusref04_Mul.f (k + 1) a0 a1) := by
 intro a0 a1 k
 have ih0 := quietusref04_Mul.mono_l k
 unfold quietusref04_Mul.f
 repeat' first
   | (with_reducible exact ih0 _ _ _)
   | (with_reducible exact LeO.refl _)
   | (with_reducible exact LeO.none _)
   | (with_reducible refine LeO.ite ?_ ?_)
   | (with_reducible refine LeO.bind ?_ (fun _ => ?_))
   | exact ih0 _ _ _
   | exact LeO.none _
   | refine LeO.ite ?_ ?_
   | refine LeO.bind ?_ (fun _ => ?_)
set_option maxHeartbeats 8000000 in
set_option maxRecDepth 100000 in
theorem quietusref04_Mul.calls (k : Nat) (a0 : Int) (a1 : Int) (r : Int) (w : World) (h : quietusref04_Mul.f k a0 a1 = some r) :
  Calls Tryd.prog 49 #[.int .u8 a0, .int .u8 a1] w fun e w' => e = .returned (.int .u8 r) ∧ Drawn0 w w' := by
 have H : (quietusref04_Mul.l0 k (wrap64 (a0)) (wrap64 (a1)) 0) = some r := h
 clear h
 have H' := Aside0.mk H
 clear H
 go_enter Tryd.func49, Tryd.ntmps49
 go_wp2
 go_loopg [5, 6, 7] k (fun kq v5 v6 v7 w' => ∃ (x5_1 : Int) (x6_1 : Int) (x7_1 : Int), v5 = .int .i64 x5_1 ∧ v6 = .int .i64 x6_1 ∧ v7 = .int .i64 x7_1 ∧ Aside0 (quietusref04_Mul.l0 kq x5_1 x6_1 x7_1 = some r) ∧ Aside0 (kq ≤ k) ∧ Drawn0 w w')
 case atStart => exact ⟨(wrap64 (a0)), (wrap64 (a1)), (0), (by first | rfl | (simp; done) | (simp [*]; done)), (by first | rfl | (simp; done) | (simp [*]; done)), (by first | rfl | (simp; done) | (simp [*]; done)), H', ⟨Nat.le_refl _⟩, by repeat (first | exact Drawn0.refl _ | apply Drawn0.step)⟩
 case round =>
  clear H'
  try clear p2
  obtain ⟨x5_1, x6_1, x7_1, rfl, rfl, rfl, HA, HK1, ⟨m1, rfl⟩⟩ := hrel
  cases gk with
  | zero => exact absurd HA.out (by simp [quietusref04_Mul.l0])
  | succ k1 =>
   have H := HA.out
   clear HA
   simp only [quietusref04_Mul.l0] at H
   by_cases c3 : x6_1 > 0
   ·rw [if_pos c3] at H
    have c3b0 : decide (0 < x6_1) = true := decide_eq_true c3
    clear c3
    by_cases c4 : (Int.tmod x6_1 2) = 1
    ·rw [if_pos c4] at H
     have c4b0 : ((Int.tmod x6_1 2) == 1) = true := beq_iff_eq.mpr c4
     have c4b1 : ((Int.tmod x6_1 2) != 1) = false := bne_eq_false_iff_eq.mpr c4
     clear c4
     by_cases c5 : (wrap64 (2 * x5_1)) > 255
     ·rw [if_pos c5] at H
      have c5b0 : decide (255 < (wrap64 (2 * x5_1))) = true := decide_eq_true c5
      clear c5
      have H' := Aside0.mk H
      clear H
      go_wp2
      go_roundg k1
      case measure => have := HK1.out; omega
      case rel => exact ⟨(Go.bits .xor .i64 (wrap64 (2 * x5_1)) 285), (wrap64 (Int.tdiv x6_1 2)), (Go.bits .xor .i64 x7_1 x5_1), (by first | rfl | (simp; done) | (simp [*]; done)), (by first | rfl | (simp; done) | (simp [*]; done)), (by first | rfl | (simp; done) | (simp [*]; done)), H', ⟨by have := HK1.out; omega⟩, by repeat (first | exact Drawn0.refl _ | apply Drawn0.step)⟩
     ·rw [if_neg c5] at H
      have c5b0 : decide (255 < (wrap64 (2 * x5_1))) = false := decide_eq_false c5
      clear c5
      have H' := Aside0.mk H
      clear H
      go_wp2
      go_roundg k1
      case measure => have := HK1.out; omega
      case rel => exact ⟨(wrap64 (2 * x5_1)), (wrap64 (Int.tdiv x6_1 2)), (Go.bits .xor .i64 x7_1 x5_1), (by first | rfl | (simp; done) | (simp [*]; done)), (by first | rfl | (simp; done) | (simp [*]; done)), (by first | rfl | (simp; done) | (simp [*]; done)), H', ⟨by have := HK1.out; omega⟩, by repeat (first | exact Drawn0.refl _ | apply Drawn0.step)⟩
    ·rw [if_neg c4] at H
     have c4b0 : ((Int.tmod x6_1 2) == 1) = false := beq_eq_false_iff_ne.mpr c4
     have c4b1 : ((Int.tmod x6_1 2) != 1) = true := bne_iff_ne.mpr c4
     by_cases c6 : (wrap64 (2 * x5_1)) > 255
     ·rw [if_pos c6] at H
      have c6b0 : decide (255 < (wrap64 (2 * x5_1))) = true := decide_eq_true c6
      clear c6
      have H' := Aside0.mk H
      clear H
      go_wp2
      go_roundg k1
      case measure => have := HK1.out; omega
      case rel => exact ⟨(Go.bits .xor .i64 (wrap64 (2 * x5_1)) 285), (wrap64 (Int.tdiv x6_1 2)), (x7_1), (by first | rfl | (simp; done) | (simp [*]; done)), (by first | rfl | (simp; done) | (simp [*]; done)), (by first | rfl | (simp; done) | (simp [*]; done)), H', ⟨by have := HK1.out; omega⟩, by repeat (first | exact Drawn0.refl _ | apply Drawn0.step)⟩
     ·rw [if_neg c6] at H
      have c6b0 : decide (255 < (wrap64 (2 * x5_1))) = false := decide_eq_false c6
      clear c6
      have H' := Aside0.mk H
      clear H
      go_wp2
      go_roundg k1
      case measure => have := HK1.out; omega
      case rel => exact ⟨(wrap64 (2 * x5_1)), (wrap64 (Int.tdiv x6_1 2)), (x7_1), (by first | rfl | (simp; done) | (simp [*]; done)), (by first | rfl | (simp; done) | (simp [*]; done)), (by first | rfl | (simp; done) | (simp [*]; done)), H', ⟨by have := HK1.out; omega⟩, by repeat (first | exact Drawn0.refl _ | apply Drawn0.step)⟩
   ·rw [if_neg c3] at H
    have c3b0 : decide (0 < x6_1) = false := decide_eq_false c3
    clear c3
    obtain rfl := Option.some.inj H
    go_wp2
    go_ret
    exact ⟨by first | rfl | (simp; done) | (simp [*]; done), by repeat (first | exact Drawn0.refl _ | apply Drawn0.step)⟩
def quietusref05_Sum.l0 : Nat → List Int → Int → List Int → List Int → Int → Option (List Int)
 | 0, _, _, _, _, _ => none
 | k + 1, x0, x1, x2, x7, x8 => if x8 < (x0.length : Int) then (if 0 ≤ x8 then (if x8 < (x2.length : Int) then ((quietusref04_Mul.f k x1 (rd x2 x8)).bind fun t224 => (if x7.length < 140737488355328 then (quietusref05_Sum.l0 k x0 x1 x2 (x7 ++ [Go.bits .xor .u8 (rd x0 x8) t224]) (wrap64 (x8 + 1))) else (none))) else (none)) else (none)) else (some x7)
def quietusref05_Sum.f (k : Nat) (l0 : List Int) (a1 : Int) (l2 : List Int) : Option (List Int) := quietusref05_Sum.l0 k l0 a1 l2 ([] : List Int) 0
theorem quietusref05_Sum.mono_l : ∀ k, (∀ y0 y1 y2 y3 y4, LeO (quietusref05_Sum.l0 k y0 y1 y2 y3 y4) (quietusref05_Sum.l0 (k + 1) y0 y1 y2 y3 y4))
 | 0 => fun _ _ _ _ _ r h => by simp [quietusref05_Sum.l0] at h
 | k + 1 => by
  have ih0 := quietusref05_Sum.mono_l k
  ·intro y0 y1 y2 y3 y4
   unfold quietusref05_Sum.l0
   repeat' first
   | (with_reducible exact ih0 _ _ _ _ _)
   | (with_reducible exact quietusref04_Mul.mono _ _ _)
   | (with_reducible exact LeO.refl _)
   | (with_reducible exact LeO.none _)
   | (with_reducible refine LeO.ite ?_ ?_)
   | (with_reducible refine LeO.bind ?_ (fun _ => ?_))
   | exact ih0 _ _ _ _ _
   | exact quietusref04_Mul.mono _ _ _
   | exact LeO.none _
   | refine LeO.ite ?_ ?_
   | refine LeO.bind ?_ (fun _ => ?_)
theorem quietusref05_Sum.mono : ∀ a0 a1 a2 k, LeO (quietusref05_Sum.f k a0 a1 a2) (quietusref05_Sum.f (k + 1) a0 a1 a2) := by
 intro a0 a1 a2 k
 have ih0 := quietusref05_Sum.mono_l k
 unfold quietusref05_Sum.f
 repeat' first
   | (with_reducible exact ih0 _ _ _ _ _)
   | (with_reducible exact quietusref04_Mul.mono _ _ _)
   | (with_reducible exact LeO.refl _)
   | (with_reducible exact LeO.none _)
   | (with_reducible refine LeO.ite ?_ ?_)
   | (with_reducible refine LeO.bind ?_ (fun _ => ?_))
   | exact ih0 _ _ _ _ _
   | exact quietusref04_Mul.mono _ _ _
   | exact LeO.none _
   | refine LeO.ite ?_ ?_
   | refine LeO.bind ?_ (fun _ => ?_)
set_option maxHeartbeats 8000000 in
set_option maxRecDepth 100000 in
theorem quietusref05_Sum.calls (k : Nat) (A0 : Option Addr) (c0 : Nat) (l0 : List Int) (a1 : Int) (A2 : Option Addr) (c2 : Nat) (l2 : List Int) (r : List Int) (w : World) (hr0 : Kd.C (Kd.int .u8) w A0 l0.length l0) (hc0 : l0.length ≤ c0) (hr2 : Kd.C (Kd.int .u8) w A2 l2.length l2) (hc2 : l2.length ≤ c2) (h : quietusref05_Sum.f k l0 a1 l2 = some r) :
  Calls Tryd.prog 32 #[.slice A0 l0.length c0, .int .u8 a1, .slice A2 l2.length c2] w fun e w' => ∃ v0_ : Value, e = .returned (v0_) ∧ Kd.R (Kd.int .u8) 5 w' w.heap.size (fun _ => True) v0_ r ∧ Below w.heap.size w w' := by
 have HR0 := Aside0.mk hr0
 have HC0 := Aside0.mk hc0
 clear hr0 hc0
 have HR2 := Aside0.mk hr2
 have HC2 := Aside0.mk hc2
 clear hr2 hc2
 have HB := Aside0.mk (Below.refl w.heap.size w)
 have H : (quietusref05_Sum.l0 k l0 a1 l2 ([] : List Int) 0) = some r := h
 clear h
 have H' := Aside0.mk H
 clear H
 go_enter Tryd.func32, Tryd.ntmps32
 go_wp2
 go_loopg [7, 8] k (fun kq v7 v8 w' => ∃ (x7_1 : List Int) (x8_1 : Int), v8 = .int .i64 x8_1 ∧ Aside0 (quietusref05_Sum.l0 kq l0 a1 l2 x7_1 x8_1 = some r) ∧ Aside0 (kq ≤ k) ∧ Aside0 (Kd.R (Kd.int .u8) 5 w' w.heap.size (fun _ => True) v7 x7_1) ∧ Aside0 (Below w.heap.size w w'))
 case atStart => exact ⟨(([] : List Int)), (0), (by first | rfl | (simp; done) | (simp [*]; done)), H', ⟨Nat.le_refl _⟩, ⟨by first | exact Kd.R_nil _ _ _ _ _ | exact Kd.N_nil _ _ _ _ _ | exact Kd.V_nil _ _ _ _ _ | exact Kd.Q_nil _ _ _ _ _ | exact Kd.S_nil _ _ _ _ _⟩, ⟨by repeat (first | (with_reducible first | exact HB.out | apply below_alloc | apply pw_below_drewN | apply below_drew1) | exact HB.out)⟩⟩
 case round =>
  clear H'
  try clear c2
  try clear p2
  try clear c3
  obtain ⟨x7_1, x8_1, rfl, HA, HK1, HO_7, HB⟩ := hrel
  cases gk with
  | zero => exact absurd HA.out (by simp [quietusref05_Sum.l0])
  | succ k1 =>
   have H := HA.out
   clear HA
   simp only [quietusref05_Sum.l0] at H
   by_cases c4 : x8_1 < (l0.length : Int)
   ·rw [if_pos c4] at H
    have c4b0 : decide (x8_1 < (l0.length : Int)) = true := decide_eq_true c4
    clear c4
    by_cases c5 : 0 ≤ x8_1
    ·rw [if_pos c5] at H
     have c5b0 : decide (0 ≤ x8_1) = true := decide_eq_true c5
     clear c5
     by_cases c6 : x8_1 < (l2.length : Int)
     ·rw [if_pos c6] at H
      have c6b0 : decide (x8_1 < (l2.length : Int)) = true := decide_eq_true c6
      clear c6
      replace H := Option.bind_eq_some_iff.mp H
      obtain ⟨t224, A70, H⟩ := H
      replace H : (if x7_1.length < 140737488355328 then (quietusref05_Sum.l0 k1 l0 a1 l2 (x7_1 ++ [Go.bits .xor .u8 (rd l0 x8_1) t224]) (wrap64 (x8_1 + 1))) else (none)) = some r := H
      have A7 := Aside0.mk A70
      clear A70
      by_cases c8 : x7_1.length < 140737488355328
      ·rw [if_pos c8] at H
       have LMc8 := Aside0.mk c8
       clear c8
       obtain ⟨y226, hy226⟩ : ∃ y_ : List Int, y_ = (x7_1 ++ [Go.bits .xor .u8 (rd l0 x8_1) t224]) := ⟨_, rfl⟩
       replace H : (quietusref05_Sum.l0 k1 l0 a1 l2 y226 (wrap64 (x8_1 + 1))) = some r := by first | (rw [hy226]; with_reducible exact H) | (have H2_ := (Option.bind_some _ _).symm.trans H; rw [hy226]; with_reducible exact H2_) | (have H2_ := (Option.bind_some _ _).symm.trans H; with_reducible exact H2_) | with_reducible exact H | (rw [hy226]; exact H) | exact H
       have Ny226 := Aside0.mk hy226
       clear hy226
       have H' := Aside0.mk H
       clear H
       have p223 : 0 ≤ (x8_1 : Int) := of_decide_eq_true (by first | (with_reducible assumption) | assumption)
       have q223 : x8_1 < (l2.length : Int) := of_decide_eq_true (by first | (with_reducible assumption) | assumption)
       obtain ⟨ad223, e223, hx223_0⟩ := Kd.at_int HR2.out x8_1 p223 q223
       cases e223
       replace hx223_0 := (HB.out.cell (World.block_lt_of_cell? w _ hx223_0)).trans hx223_0
       replace p223 := eq_true p223
       replace q223 := eq_true q223
       go_wp2_with (first | ((with_reducible refine gate_callee (f := 49) rfl ?_); refine goesL_ (some 21) rfl rfl Tryd.func49 (by kernel_rfl) rfl #[.int .u8 a1, .int .u8 (rd l2 x8_1)] rfl (by (try simp only [List.map_toArray, List.map_cons, List.map_nil]); first | done | rfl | (simp only [List.length_drop, List.length_take]; rfl)) ?_; (with_reducible refine (quietusref04_Mul.calls k1 a1 (rd l2 x8_1) t224 _ A7.out).mono ?_); rintro e w' ⟨rfl, ⟨nd, rfl⟩⟩; refine ⟨_, rfl, ?_⟩; have p225 : 0 ≤ (x8_1 : Int) := of_decide_eq_true (by first | (with_reducible assumption) | assumption); have q225 : x8_1 < (l0.length : Int) := of_decide_eq_true (by first | (with_reducible assumption) | assumption); obtain ⟨ad225, e225, hx225_0⟩ := Kd.at_int HR0.out x8_1 p225 q225; cases e225; replace hx225_0 := (HB.out.cell (World.block_lt_of_cell? w _ hx225_0)).trans hx225_0; replace p225 := eq_true p225; replace q225 := eq_true q225) | ((with_reducible refine gate_builtin (b := .append) (xs := #[.tmp 22, .tmp 29]) rfl ?_); at_builtin; refine Kd.R_append (Kd.int .u8) (w0 := w) w.heap.size rfl (.tmp 22) (.tmp 29) 43 5 (.int .u8 0) 1 rfl Tryd.underlying43 info5 rfl (by decide) (by omega) u7 x7_1 (Go.bits .xor .u8 (rd l0 x8_1) t224) [.int .u8 (Go.bits .xor .u8 (rd l0 x8_1) t224)] (fun _ => True) (fun _ => False) rfl rfl ?aP (fun _ hk => hk.elim) ?aF ?aO ?aB ?aS ?aL ?_; (case aP => exact rfl); (case aB => exact (by repeat (first | (with_reducible first | exact HB.out | apply below_alloc | apply pw_below_drewN | apply below_drew1) | exact HB.out))); (case aF => exact (fun _ _ => trivial)); (case aO => exact (by (with_reducible repeat (first | apply Kd.R_alloc | apply Kd.R_drewN | apply Kd.R_drew)); exact HO_7.out)); (case aS => exact (below_size (by repeat (first | (with_reducible first | exact HB.out | apply below_alloc | apply pw_below_drewN | apply below_drew1) | exact HB.out)))); (case aL => have := LMc8.out; omega); intro v227 w9 ho hb hg hat; rw [← Ny226.out] at ho; have n0_ := Aside0.mk (hb); have n1_ := Aside0.mk (ho); clear HB; clear HO_7; have HB := n0_; have HO228 := n1_; clear n0_ n1_; clear ho hb hg hat))
       go_roundg k1
       case measure => have := HK1.out; omega
       case rel => exact ⟨(y226), (wrap64 (x8_1 + 1)), (by first | rfl | (simp; done) | (simp [*]; done)), H', ⟨by have := HK1.out; omega⟩, ⟨by (with_reducible repeat (first | apply Kd.R_alloc | apply Kd.R_drewN | apply Kd.R_drew)); exact HO228.out⟩, ⟨by repeat (first | (with_reducible first | exact HB.out | apply below_alloc | apply pw_below_drewN | apply below_drew1) | exact HB.out)⟩⟩
      ·rw [if_neg c8] at H
       exact absurd H (by simp)
     ·rw [if_neg c6] at H
      exact absurd H (by simp)
    ·rw [if_neg c5] at H
     exact absurd H (by simp)
   ·rw [if_neg c4] at H
    have c4b0 : decide (x8_1 < (l0.length : Int)) = false := decide_eq_false c4
    clear c4
    obtain rfl := Option.some.inj H
    go_wp2
    go_ret
    exact ⟨_, by first | rfl | (simp [errW_none, errW_some] <;> rfl) | (simp [*, errW_none, errW_some] <;> rfl), by (with_reducible repeat (first | apply Kd.R_alloc | apply Kd.R_drewN | apply Kd.R_drew)); exact HO_7.out, by repeat (first | (with_reducible first | exact HB.out | apply below_alloc | apply pw_below_drewN | apply below_drew1) | exact HB.out)⟩
def quietusref05_Combine.l0 : Nat → List Int → List (List Int) → List Int → Int → Option (List Int)
 | 0, _, _, _, _ => none
 | k + 1, x0, x1, x7, x8 => if x8 < (x1.length : Int) then (if 0 ≤ x8 then (if x8 < (x0.length : Int) then ((quietusref05_Sum.f k x7 (rd x0 x8) (rd_L1 x1 x8)).bind fun t234 => (quietusref05_Combine.l0 k x0 x1 t234 (wrap64 (x8 + 1)))) else (none)) else (none)) else (some x7)
def quietusref05_Combine.f (k : Nat) (l0 : List Int) (l1 : List (List Int)) (a2 : Int) : Option (List Int) := if 0 ≤ a2 then (if (a2 : Int).toNat ≤ 281474976710656 then (quietusref05_Combine.l0 k l0 l1 (List.replicate (a2 : Int).toNat 0) 0) else (none)) else (none)
theorem quietusref05_Combine.mono_l : ∀ k, (∀ y0 y1 y2 y3, LeO (quietusref05_Combine.l0 k y0 y1 y2 y3) (quietusref05_Combine.l0 (k + 1) y0 y1 y2 y3))
 | 0 => fun _ _ _ _ r h => by simp [quietusref05_Combine.l0] at h
 | k + 1 => by
  have ih0 := quietusref05_Combine.mono_l k
  ·intro y0 y1 y2 y3
   unfold quietusref05_Combine.l0
   repeat' first
   | (with_reducible exact ih0 _ _ _ _)
   | (with_reducible exact quietusref05_Sum.mono _ _ _ _)
   | (with_reducible exact LeO.refl _)
   | (with_reducible exact LeO.none _)
   | (with_reducible refine LeO.ite ?_ ?_)
   | (with_reducible refine LeO.bind ?_ (fun _ => ?_))
   | exact ih0 _ _ _ _
   | exact quietusref05_Sum.mono _ _ _ _
   | exact LeO.none _
   | refine LeO.ite ?_ ?_
   | refine LeO.bind ?_ (fun _ => ?_)
theorem quietusref05_Combine.mono : ∀ a0 a1 a2 k, LeO (quietusref05_Combine.f k a0 a1 a2) (quietusref05_Combine.f (k + 1) a0 a1 a2) := by
 intro a0 a1 a2 k
 have ih0 := quietusref05_Combine.mono_l k
 unfold quietusref05_Combine.f
 repeat' first
   | (with_reducible exact ih0 _ _ _ _)
   | (with_reducible exact quietusref05_Sum.mono _ _ _ _)
   | (with_reducible exact LeO.refl _)
   | (with_reducible exact LeO.none _)
   | (with_reducible refine LeO.ite ?_ ?_)
   | (with_reducible refine LeO.bind ?_ (fun _ => ?_))
   | exact ih0 _ _ _ _
   | exact quietusref05_Sum.mono _ _ _ _
   | exact LeO.none _
   | refine LeO.ite ?_ ?_
   | refine LeO.bind ?_ (fun _ => ?_)
def quietusref05_Combine.T5 : Bool × List (List Nat × List Nat) := (true, [([], []), ([], []), ([], []), ([1, 2], [1, 2]), ([3], [3]), ([], []), ([], []), ([5, 6], [5, 6]), ([7], [7]), ([0, 4, 8], [0, 4, 8]), ([9, 9, 0, 1, 2, 3, 4, 5, 6, 7, 8, 9], [0, 9])])
def quietusref05_Combine.B5 : List Nat := [0, 0, 0, 6, 14, 0, 0, 96, 224, 511, 1023]
theorem quietusref05_Combine.tab5 : rtab .any (opsOf Tryd.f34 5) = quietusref05_Combine.T5 := by kernel_rfl
theorem quietusref05_Combine.bits5 : waitsOk quietusref05_Combine.T5.2 quietusref05_Combine.B5 = true := by kernel_rfl
set_option maxHeartbeats 8000000 in
set_option maxRecDepth 100000 in
theorem quietusref05_Combine.calls (k : Nat) (A0 : Option Addr) (c0 : Nat) (l0 : List Int) (A1 : Option Addr) (c1 : Nat) (l1 : List (List Int)) (a2 : Int) (r : List Int) (w : World) (hr0 : Kd.C (Kd.int .u8) w A0 l0.length l0) (hc0 : l0.length ≤ c0) (hr1 : Kd.C (Kd.slice 5 (Kd.int .u8)) w A1 l1.length l1) (hc1 : l1.length ≤ c1) (h : quietusref05_Combine.f k l0 l1 a2 = some r) :
  Calls Tryd.prog 34 #[.slice A0 l0.length c0, .slice A1 l1.length c1, .int .i64 a2] w fun e w' => ∃ v0_ : Value, e = .returned (v0_) ∧ Kd.R (Kd.int .u8) 5 w' w.heap.size (fun _ => True) v0_ r ∧ Below w.heap.size w w' := by
 have HR0 := Aside0.mk hr0
 have HC0 := Aside0.mk hc0
 clear hr0 hc0
 have HR1 := Aside0.mk hr1
 have HC1 := Aside0.mk hc1
 clear hr1 hc1
 have HB := Aside0.mk (Below.refl w.heap.size w)
 have H : (if 0 ≤ a2 then (if (a2 : Int).toNat ≤ 281474976710656 then (quietusref05_Combine.l0 k l0 l1 (List.replicate (a2 : Int).toNat 0) 0) else (none)) else (none)) = some r := h
 clear h
 by_cases c4 : 0 ≤ a2
 ·rw [if_pos c4] at H
  have c4b0 := eq_true c4
  have c4b1 : decide (0 ≤ a2) = true := decide_eq_true c4
  clear c4
  by_cases c5 : (a2 : Int).toNat ≤ 281474976710656
  ·rw [if_pos c5] at H
   have c5b0 := eq_true c5
   have c5b1 : decide ((a2 : Int).toNat ≤ 281474976710656) = true := decide_eq_true c5
   clear c5
   obtain ⟨y229, hy229⟩ : ∃ y_ : List Int, y_ = (List.replicate (a2 : Int).toNat 0) := ⟨_, rfl⟩
   replace H : (quietusref05_Combine.l0 k l0 l1 y229 0) = some r := by first | (rw [hy229]; with_reducible exact H) | (have H2_ := (Option.bind_some _ _).symm.trans H; rw [hy229]; with_reducible exact H2_) | (have H2_ := (Option.bind_some _ _).symm.trans H; with_reducible exact H2_) | with_reducible exact H | (rw [hy229]; exact H) | exact H
   have Ny229 := Aside0.mk hy229
   clear hy229
   have H' := Aside0.mk H
   clear H
   go_enter Tryd.func34, Tryd.ntmps34
   go_wp2_with (first | ((with_reducible refine gate_dst (N := 10) rfl ?_); refine Kd.R_make (Kd.int .u8) _ 5 rfl (N := 10) rfl 43 _ _ rfl a2 rfl rfl Tryd.underlying43 (.int .u8 0) 1 info5 rfl (by decide) (by omega) 0 (ok := fun _ => True) (okp := fun _ => True) rfl (fun _ hk => hk) trivial (of_decide_eq_true (by first | (with_reducible assumption) | assumption)) (Nat.le_trans (Nat.mul_le_mul_right _ (of_decide_eq_true (by first | (with_reducible assumption) | assumption) : a2.toNat ≤ 281474976710656)) (by omega)) (Below.refl _ _) (Nat.le_refl _) ?_; intro v230 w6 ho7 hb hg_ hnew_; clear hg_ hnew_; (first | rw [← Ny229.out] at ho7 | (simp only [Int.reduceToNat] at ho7; rw [← Ny229.out] at ho7)); have n0_ := Aside0.mk (Kd.R_lower ho7 (below_size (by repeat (first | (with_reducible first | exact HB.out | apply below_alloc | apply pw_below_drewN | apply below_drew1) | exact HB.out)))); have n1_ := Aside0.mk (below_step (by repeat (first | (with_reducible first | exact HB.out | apply below_alloc | apply pw_below_drewN | apply below_drew1) | exact HB.out)) hb); clear HB; have HO231 := n0_; have HB := n1_; clear n0_ n1_; clear hb ho7))
   go_loopg [7, 8] k (fun kq v7 v8 w' => ∃ (x7_1 : List Int) (x8_1 : Int), v8 = .int .i64 x8_1 ∧ Aside0 (quietusref05_Combine.l0 kq l0 l1 x7_1 x8_1 = some r) ∧ Aside0 (kq ≤ k) ∧ Aside0 (Kd.R (Kd.int .u8) 5 w' w.heap.size (fun _ => True) v7 x7_1) ∧ Aside0 (Below w.heap.size w w'))
   case atStart => exact ⟨(y229), (0), (by first | rfl | (simp; done) | (simp [*]; done)), H', ⟨Nat.le_refl _⟩, ⟨by (with_reducible repeat (first | apply Kd.R_alloc | apply Kd.R_drewN | apply Kd.R_drew)); exact HO231.out⟩, ⟨by repeat (first | (with_reducible first | exact HB.out | apply below_alloc | apply pw_below_drewN | apply below_drew1) | exact HB.out)⟩⟩
   case round =>
    clear H'
    try clear c1
    try clear p2
    try clear c3
    try clear c4
    try clear c4b0
    try clear c4b1
    try clear c5
    try clear c5b0
    try clear c5b1
    obtain ⟨x7_1, x8_1, rfl, HA, HK1, HO_7, HB⟩ := hrel
    cases gk with
    | zero => exact absurd HA.out (by simp [quietusref05_Combine.l0])
    | succ k1 =>
     have H := HA.out
     clear HA
     simp only [quietusref05_Combine.l0] at H
     by_cases c8 : x8_1 < (l1.length : Int)
     ·rw [if_pos c8] at H
      have c8b0 : decide (x8_1 < (l1.length : Int)) = true := decide_eq_true c8
      clear c8
      by_cases c9 : 0 ≤ x8_1
      ·rw [if_pos c9] at H
       have c9b0 : decide (0 ≤ x8_1) = true := decide_eq_true c9
       clear c9
       by_cases c10 : x8_1 < (l0.length : Int)
       ·rw [if_pos c10] at H
        have c10b0 : decide (x8_1 < (l0.length : Int)) = true := decide_eq_true c10
        clear c10
        replace H := Option.bind_eq_some_iff.mp H
        obtain ⟨t234, A110, H⟩ := H
        replace H : (quietusref05_Combine.l0 k1 l0 l1 t234 (wrap64 (x8_1 + 1))) = some r := H
        have A11 := Aside0.mk A110
        clear A110
        have H' := Aside0.mk H
        clear H
        try go_wp2
        have n0_ := Aside0.mk (Kd.R_drew HO_7.out)
        have n1_ := Aside0.mk (below_drew1 HB.out)
        clear HO_7
        clear HB
        have HO_7 := n0_
        have HB := n1_
        clear n0_ n1_
        have p232 : 0 ≤ (x8_1 : Int) := of_decide_eq_true (by first | (with_reducible assumption) | assumption)
        have q232 : x8_1 < (l0.length : Int) := of_decide_eq_true (by first | (with_reducible assumption) | assumption)
        obtain ⟨ad232, e232, hx232_0⟩ := Kd.at_int HR0.out x8_1 p232 q232
        have hw232_0 := hx232_0
        cases e232
        replace hx232_0 := (HB.out.cell (World.block_lt_of_cell? w _ hx232_0)).trans hx232_0
        replace p232 := eq_true p232
        replace q232 := eq_true q232
        have p233 : 0 ≤ (x8_1 : Int) := of_decide_eq_true (by first | (with_reducible assumption) | assumption)
        have q233 : x8_1 < (l1.length : Int) := of_decide_eq_true (by first | (with_reducible assumption) | assumption)
        obtain ⟨ad233, A233_0, c233_0, e233, hx233_0, hl233_0, hi233_0⟩ := at_L1 HR1.out x8_1 p233 q233
        have hw233_0 := hx233_0
        cases e233
        replace hx233_0 := (HB.out.cell (World.block_lt_of_cell? w _ hx233_0)).trans hx233_0
        have HR233_0 := Aside0.mk hi233_0
        have HC233_0 := Aside0.mk hl233_0
        clear hi233_0 hl233_0
        replace p233 := eq_true p233
        replace q233 := eq_true q233
        obtain ⟨Ao13, co13, eo13⟩ := Kd.R_slice HO_7.out
        (first | subst eo13 | (injection eo13 with f1_ f2_ f3_; have f4_ := f1_.symm; have f5_ := f3_.symm; clear f1_ f2_ f3_; subst f4_; subst f5_))
        refine start_ (n := 11) (S := fun w' => w'.cell? (ad232.add (x8_1).toNat) = some (.int .u8 (rd l0 x8_1)) ∧ w'.cell? (ad233.add (x8_1).toNat) = some (.slice A233_0 (rd_L1 l1 x8_1).length c233_0)) (ds := []) #[false, false, false, false, false, false, false, false, false, false, false] (by kernel_rfl) rfl rfl ⟨((HB.out.cell (World.block_lt_of_cell? w _ hw232_0)).trans hw232_0), ((HB.out.cell (World.block_lt_of_cell? w _ hw233_0)).trans hw233_0)⟩ (fun hHeld => ?_); refine with_tabW quietusref05_Combine.tab5 quietusref05_Combine.bits5 (fun HT_ HW_ => ?_)
        generalize wr.drew = w12 at HO_7 HB HR233_0 hx232_0 hx233_0 hHeld ⊢
        refine pure_ (i := 0) (N := some 17) (v := ?_) (a' := ?_) #[true, false, false, false, false, false, false, false, false, false, false] rfl rfl (any_of HT_.out (by kernel_rfl)) (fun _ _ _ h => h) (Or.inl ⟨by rfl, ?_⟩) ?_ ?_
        rotate_left
        ·intro w'
         go_simp
         with_reducible rfl
        rotate_left
        ·simp only [Act.put, List.setIfInBounds_toArray, List.set_cons_zero, List.set_cons_succ, i64_w, i32_w]
         rfl
        refine pure_ (i := 1) (N := some 18) (v := ?_) (a' := ?_) #[true, true, false, false, false, false, false, false, false, false, false] rfl rfl (any_of HT_.out (by kernel_rfl)) (fun _ _ _ h => h) (Or.inl ⟨by rfl, ?_⟩) ?_ ?_
        rotate_left
        ·intro w'
         go_simp
         with_reducible rfl
        rotate_left
        ·simp only [Act.put, List.setIfInBounds_toArray, List.set_cons_zero, List.set_cons_succ, i64_w, i32_w]
         rfl
        refine pure_ (i := 2) (N := some 19) (v := ?_) (a' := ?_) #[true, true, true, false, false, false, false, false, false, false, false] rfl rfl (any_of HT_.out (by kernel_rfl)) (fun _ _ _ h => h) (Or.inl ⟨by rfl, ?_⟩) ?_ ?_
        rotate_left
        ·intro w'
         go_simp
         with_reducible rfl
        rotate_left
        ·simp only [Act.put, List.setIfInBounds_toArray, List.set_cons_zero, List.set_cons_succ, i64_w, i32_w]
         rfl
        refine pure_ (i := 3) (N := some 20) (v := ?_) (a' := ?_) #[true, true, true, true, false, false, false, false, false, false, false] rfl rfl (any_of HT_.out (by kernel_rfl)) (fun _ _ _ h => h) (Or.inl ⟨by rfl, ?_⟩) ?_ ?_
        rotate_left
        ·intro w'
         go_simp
         with_reducible rfl
        rotate_left
        ·simp only [Act.put, List.setIfInBounds_toArray, List.set_cons_zero, List.set_cons_succ, i64_w, i32_w]
         rfl
        refine pure_ (i := 5) (N := some 22) (v := ?_) (a' := ?_) #[true, true, true, true, false, true, false, false, false, false, false] rfl rfl (any_of HT_.out (by kernel_rfl)) (fun _ _ _ h => h) (Or.inl ⟨by rfl, ?_⟩) ?_ ?_
        rotate_left
        ·intro w'
         go_simp
         with_reducible rfl
        rotate_left
        ·simp only [Act.put, List.setIfInBounds_toArray, List.set_cons_zero, List.set_cons_succ, i64_w, i32_w]
         rfl
        refine pure_ (i := 6) (N := some 23) (v := ?_) (a' := ?_) #[true, true, true, true, false, true, true, false, false, false, false] rfl rfl (any_of HT_.out (by kernel_rfl)) (fun _ _ _ h => h) (Or.inl ⟨by rfl, ?_⟩) ?_ ?_
        rotate_left
        ·intro w'
         go_simp
         with_reducible rfl
        rotate_left
        ·simp only [Act.put, List.setIfInBounds_toArray, List.set_cons_zero, List.set_cons_succ, i64_w, i32_w]
         rfl
        refine pure_ (i := 7) (N := some 24) (v := ?_) (a' := ?_) #[true, true, true, true, false, true, true, true, false, false, false] rfl rfl (any_of HT_.out (by kernel_rfl)) (fun _ _ _ h => h) (Or.inl ⟨by rfl, ?_⟩) ?_ ?_
        rotate_left
        ·intro w'
         go_simp
         with_reducible rfl
        rotate_left
        ·simp only [Act.put, List.setIfInBounds_toArray, List.set_cons_zero, List.set_cons_succ, i64_w, i32_w]
         rfl
        refine take_ (i := 4) (N := some 21) (v := ?_) (a' := ?_) #[true, true, true, true, true, true, true, true, false, false, false] rfl rfl (take_ofW HT_.out HW_.out (by kernel_rfl)) (fun _ _ _ h => h) (Or.inl ⟨by rfl, ?_⟩) hHeld ?_ ?_
        rotate_left
        ·rintro w' ⟨s0, s1⟩
         (try simp only [Int.toNat_natCast] at s0 s1)
         go_simp
         with_reducible rfl
        rotate_left
        ·simp only [Act.put, List.setIfInBounds_toArray, List.set_cons_zero, List.set_cons_succ, i64_w, i32_w]
         rfl
        refine take_ (i := 8) (N := some 25) (v := ?_) (a' := ?_) #[true, true, true, true, true, true, true, true, true, false, false] rfl rfl (take_ofW HT_.out HW_.out (by kernel_rfl)) (fun _ _ _ h => h) (Or.inl ⟨by rfl, ?_⟩) hHeld ?_ ?_
        rotate_left
        ·rintro w' ⟨s0, s1⟩
         (try simp only [Int.toNat_natCast] at s0 s1)
         go_simp
         with_reducible rfl
        rotate_left
        ·simp only [Act.put, List.setIfInBounds_toArray, List.set_cons_zero, List.set_cons_succ, i64_w, i32_w]
         rfl
        refine one_ (i := 9) (N := some 26) #[true, true, true, true, true, true, true, true, true, true, false] rfl rfl (one_of HT_.out (by kernel_rfl)) (by decide) (fun K hK => ?_)
        refine goes_ Tryd.func32 (by kernel_rfl) rfl #[.slice Ao13 x7_1.length co13, .int .u8 (rd l0 x8_1), .slice A233_0 (rd_L1 l1 x8_1).length c233_0] (by rfl) rfl rfl (by (try simp only [List.map_toArray, List.map_cons, List.map_nil]); first | done | rfl | (simp only [List.length_drop, List.length_take]; rfl)) ?_
        with_reducible refine (quietusref05_Sum.calls k1 _ _ x7_1 (rd l0 x8_1) _ _ (rd_L1 l1 x8_1) t234 _ ?side1 ?side2 ?side3 ?side4 A11.out).mono ?_
        (case side1 => repeat (first | exact (Kd.R_reads' HO_7.out).2.2 | (with_reducible refine Kd.C_alloc ?_ _) | (with_reducible refine Kd.C_drewN ?_ _) | (with_reducible refine Kd.C_drew ?_)))
        (case side2 => exact (Kd.R_reads' HO_7.out).2.1)
        (case side3 => repeat (first | exact (Kd.C_below HR233_0.out HB.out) | (with_reducible refine Kd.C_alloc ?_ _) | (with_reducible refine Kd.C_drewN ?_ _) | (with_reducible refine Kd.C_drew ?_)))
        (case side4 => exact HC233_0.out)
        rintro e w14 ⟨v235, rfl, ho0, hb⟩
        refine ⟨_, rfl, ?_⟩
        have n0_ := Aside0.mk (Kd.R_elder' (by (with_reducible repeat (first | apply Kd.R_alloc | apply Kd.R_drewN | apply Kd.R_drew)); exact HO_7.out) (Kd.R_base ho0) hb)
        have n1_ := Aside0.mk (Kd.R_lower (Kd.R_new' ho0 (Kd.R_lt (by (with_reducible repeat (first | apply Kd.R_alloc | apply Kd.R_drewN | apply Kd.R_drew)); exact HO_7.out))) (below_size (by repeat (first | (with_reducible first | exact HB.out | apply below_alloc | apply pw_below_drewN | apply below_drew1) | exact HB.out))))
        have n2_ := Aside0.mk (below_step (by repeat (first | (with_reducible first | exact HB.out | apply below_alloc | apply pw_below_drewN | apply below_drew1) | exact HB.out)) hb)
        clear HO_7
        clear HB
        have HO_7 := n0_
        have HO236 := n1_
        have HB := n2_
        clear n0_ n1_ n2_
        (try clear hb)
        (try clear hb2)
        (try clear hk)
        (try clear hi)
        (try clear ho0)
        refine hK.out _ _ ⟨((HB.out.cell (World.block_lt_of_cell? w _ hw232_0)).trans hw232_0), ((HB.out.cell (World.block_lt_of_cell? w _ hw233_0)).trans hw233_0)⟩ (fun hHeld => ?_)
        clear hK K
        refine norm_ (a' := ?_) ?_ ?_
        rotate_left
        ·show Act.put _ (some 26) _ = _
         simp only [Act.put, List.setIfInBounds_toArray, List.set_cons_zero, List.set_cons_succ, i64_w, i32_w]
         rfl
        refine pure_ (i := 10) (N := some 7) (v := ?_) (a' := ?_) #[true, true, true, true, true, true, true, true, true, true, true] rfl rfl (any_of HT_.out (by kernel_rfl)) (fun _ _ _ h => h) (Or.inl ⟨by rfl, ?_⟩) ?_ ?_
        rotate_left
        ·intro w'
         go_simp
         with_reducible rfl
        rotate_left
        ·simp only [Act.put, List.setIfInBounds_toArray, List.set_cons_zero, List.set_cons_succ, i64_w, i32_w]
         rfl
        refine done_ (done_of HT_.out (by kernel_rfl)) ?_
        try go_wp2
        go_roundg k1
        case measure => have := HK1.out; omega
        case rel => exact ⟨(t234), (wrap64 (x8_1 + 1)), (by first | rfl | (simp; done) | (simp [*]; done)), H', ⟨by have := HK1.out; omega⟩, ⟨by (with_reducible repeat (first | apply Kd.R_alloc | apply Kd.R_drewN | apply Kd.R_drew)); exact Kd.R_mono HO236.out (fun _ hk => trivial)⟩, ⟨by repeat (first | (with_reducible first | exact HB.out | apply below_alloc | apply pw_below_drewN | apply below_drew1) | exact HB.out)⟩⟩
       ·rw [if_neg c10] at H
        exact absurd H (by simp)
      ·rw [if_neg c9] at H
       exact absurd H (by simp)
     ·rw [if_neg c8] at H
      have c8b0 : decide (x8_1 < (l1.length : Int)) = false := decide_eq_false c8
      clear c8
      obtain rfl := Option.some.inj H
      go_wp2
      go_ret
      exact ⟨_, by first | rfl | (simp [errW_none, errW_some] <;> rfl) | (simp [*, errW_none, errW_some] <;> rfl), by (with_reducible repeat (first | apply Kd.R_alloc | apply Kd.R_drewN | apply Kd.R_drew)); exact HO_7.out, by repeat (first | (with_reducible first | exact HB.out | apply below_alloc | apply pw_below_drewN | apply below_drew1) | exact HB.out)⟩
  ·rw [if_neg c5] at H
   exact absurd H (by simp)
 ·rw [if_neg c4] at H
  exact absurd H (by simp)
end Go.Proofs.YtijebgceopddmaaDoor.Pa
end
section
namespace Go.Proofs.YtijebgceopddmaaDoor.Pa
open Go.RowKit Go.Proofs.YtijebgceopddmaaDoor.Gf Go.Proofs.YtijebgceopddmaaDoor.Pr Go.Proofs.YtijebgceopddmaaDoorW.PrintWords Go.Proofs.YtijebgceopddmaaDoorW.PrintLast Go.Proofs.YtijebgceopddmaaDoorW.PrintMore
attribute [local go_sem] max2_int min2_int max_two min_two max_three min_three max_four min_four   -- for this text's walks alone
set_option linter.unusedVariables false
set_option linter.unusedSimpArgs false
mutual
def quietusref05_Product.j0 : Nat → List (List Int) → List (List Int) → Int → Option ((List (List Int)) × Int)
 | 0, _, _, _ => none
 | k + 1, x0, x1, x5 => if x5 = 0 then ((quietusref05_Columns.f x0).bind fun t240 => (if t240 = (x1.length : Int) then (quietusref05_Product.l0 k x0 x1 ([] : List (List Int)) 0) else (some (([] : List (List Int)), 1)))) else (some (([] : List (List Int)), x5))
def quietusref05_Product.l0 : Nat → List (List Int) → List (List Int) → List (List Int) → Int → Option ((List (List Int)) × Int)
 | 0, _, _, _, _ => none
 | k + 1, x0, x1, x6, x7 => if x7 < (x0.length : Int) then (if 0 ≤ x7 then ((quietusref05_Columns.f x1).bind fun t242 => ((quietusref05_Combine.f k (rd_L1 x0 x7) x1 t242).bind fun t243 => (if x6.length < 5864062014805 then (quietusref05_Product.l0 k x0 x1 (x6 ++ [t243]) (wrap64 (x7 + 1))) else (none)))) else (none)) else (some (x6, 0))
end
def quietusref05_Product.f (k : Nat) (l0 : List (List Int)) (l1 : List (List Int)) : Option ((List (List Int)) × Int) := (quietusref05_Check.f k l0).bind fun t238 => (if t238 = 0 then ((quietusref05_Check.f k l1).bind fun t239 => (quietusref05_Product.j0 k l0 l1 t239)) else (quietusref05_Product.j0 k l0 l1 t238))
theorem quietusref05_Product.mono_l : ∀ k, (∀ y0 y1 y2, LeO (quietusref05_Product.j0 k y0 y1 y2) (quietusref05_Product.j0 (k + 1) y0 y1 y2)) ∧ (∀ y0 y1 y2 y3, LeO (quietusref05_Product.l0 k y0 y1 y2 y3) (quietusref05_Product.l0 (k + 1) y0 y1 y2 y3))
 | 0 => ⟨fun _ _ _ r h => by simp [quietusref05_Product.j0] at h, fun _ _ _ _ r h => by simp [quietusref05_Product.l0] at h⟩
 | k + 1 => by
  obtain ⟨ih0, ih1⟩ := quietusref05_Product.mono_l k
  refine ⟨?_, ?_⟩
  ·intro y0 y1 y2
   unfold quietusref05_Product.j0
   repeat' first
   | (with_reducible exact ih0 _ _ _)
   | (with_reducible exact ih1 _ _ _ _)
   | (with_reducible exact quietusref05_Check.mono _ _)
   | (with_reducible exact quietusref05_Combine.mono _ _ _ _)
   | (with_reducible exact LeO.refl _)
   | (with_reducible exact LeO.none _)
   | (with_reducible refine LeO.ite ?_ ?_)
   | (with_reducible refine LeO.bind ?_ (fun _ => ?_))
   | exact ih0 _ _ _
   | exact ih1 _ _ _ _
   | exact quietusref05_Check.mono _ _
   | exact quietusref05_Combine.mono _ _ _ _
   | exact LeO.none _
   | refine LeO.ite ?_ ?_
   | refine LeO.bind ?_ (fun _ => ?_)
  ·intro y0 y1 y2 y3
   unfold quietusref05_Product.l0
   repeat' first
   | (with_reducible exact ih0 _ _ _)
   | (with_reducible exact ih1 _ _ _ _)
   | (with_reducible exact quietusref05_Check.mono _ _)
   | (with_reducible exact quietusref05_Combine.mono _ _ _ _)
   | (with_reducible exact LeO.refl _)
   | (with_reducible exact LeO.none _)
   | (with_reducible refine LeO.ite ?_ ?_)
   | (with_reducible refine LeO.bind ?_ (fun _ => ?_))
   | exact ih0 _ _ _
   | exact ih1 _ _ _ _
   | exact quietusref05_Check.mono _ _
   | exact quietusref05_Combine.mono _ _ _ _
   | exact LeO.none _
   | refine LeO.ite ?_ ?_
   | refine LeO.bind ?_ (fun _ => ?_)
theorem quietusref05_Product.mono : ∀ a0 a1 k, LeO (quietusref05_Product.f k a0 a1) (quietusref05_Product.f (k + 1) a0 a1) := by
 intro a0 a1 k
 obtain ⟨ih0, ih1⟩ := quietusref05_Product.mono_l k
 unfold quietusref05_Product.f
 repeat' first
   | (with_reducible exact ih0 _ _ _)
   | (with_reducible exact ih1 _ _ _ _)
   | (with_reducible exact quietusref05_Check.mono _ _)
   | (with_reducible exact quietusref05_Combine.mono _ _ _ _)
   | (with_reducible exact LeO.refl _)
   | (with_reducible exact LeO.none _)
   | (with_reducible refine LeO.ite ?_ ?_)
   | (with_reducible refine LeO.bind ?_ (fun _ => ?_))
   | exact ih0 _ _ _
   | exact ih1 _ _ _ _
   | exact quietusref05_Check.mono _ _
   | exact quietusref05_Combine.mono _ _ _ _
   | exact LeO.none _
   | refine LeO.ite ?_ ?_
   | refine LeO.bind ?_ (fun _ => ?_)
def quietusref05_Product.T12 : Bool × List (List Nat × List Nat) := (true, [([], []), ([], []), ([], []), ([1, 2], [1, 2]), ([3], [3]), ([], []), ([], []), ([6], [6]), ([4, 5, 7, 7], [4, 5, 7]), ([8], [8]), ([0, 9, 8], [0, 9]), ([10, 10, 0, 1, 2, 3, 4, 5, 6, 7, 8, 9, 10], [0, 10])])
def quietusref05_Product.B12 : List Nat := [0, 0, 0, 6, 14, 0, 0, 64, 254, 510, 1023, 2047]
theorem quietusref05_Product.tab12 : rtab .any (opsOf Tryd.f29 12) = quietusref05_Product.T12 := by kernel_rfl
theorem quietusref05_Product.bits12 : waitsOk quietusref05_Product.T12.2 quietusref05_Product.B12 = true := by kernel_rfl
set_option maxHeartbeats 8000000 in
set_option maxRecDepth 100000 in
theorem quietusref05_Product.calls (k : Nat) (A0 : Option Addr) (c0 : Nat) (l0 : List (List Int)) (A1 : Option Addr) (c1 : Nat) (l1 : List (List Int)) (r1 : List (List Int)) (r2 : Int) (w : World) (hr0 : Kd.C (Kd.slice 5 (Kd.int .u8)) w A0 l0.length l0) (hc0 : l0.length ≤ c0) (hr1 : Kd.C (Kd.slice 5 (Kd.int .u8)) w A1 l1.length l1) (hc1 : l1.length ≤ c1) (h : quietusref05_Product.f k l0 l1 = some (r1, r2)) :
  Calls Tryd.prog 29 #[.slice A0 l0.length c0, .slice A1 l1.length c1] w fun e w' => ∃ v0_ : Value, e = .returned (.agg #[v0_, .int .i64 r2]) ∧ Kd.S (Kd.slice 5 (Kd.int .u8)) 43 w' w.heap.size (fun _ => True) v0_ r1 ∧ Below w.heap.size w w' := by
 have hu35 := Tryd.underlying35
 have HR0 := Aside0.mk hr0
 have HC0 := Aside0.mk hc0
 clear hr0 hc0
 have HR1 := Aside0.mk hr1
 have HC1 := Aside0.mk hc1
 clear hr1 hc1
 have HB := Aside0.mk (Below.refl w.heap.size w)
 have H : ((quietusref05_Check.f k l0).bind fun t238 => (if t238 = 0 then ((quietusref05_Check.f k l1).bind fun t239 => (quietusref05_Product.j0 k l0 l1 t239)) else (quietusref05_Product.j0 k l0 l1 t238))) = some (r1, r2) := h
 clear h
 replace H := Option.bind_eq_some_iff.mp H
 obtain ⟨t238, A30, H⟩ := H
 replace H : (if t238 = 0 then ((quietusref05_Check.f k l1).bind fun t239 => (quietusref05_Product.j0 k l0 l1 t239)) else (quietusref05_Product.j0 k l0 l1 t238)) = some (r1, r2) := H
 have A3 := Aside0.mk A30
 clear A30
 have HC4 := Aside0.mk H
 clear H
 go_enter Tryd.func29, Tryd.ntmps29
 go_upto_if 11 with (first | ((with_reducible refine gate_dst (N := 4) rfl ?_); refine box_event ?hg (N := 4) ?hd (cs := #[.slice none 0 0, .int .i64 0]) (t := 35) ?hr ?_; (case hd => rfl); (case hg => rfl); (case hr => first | (go_simp; done) | (go_simp; rfl)); intro gb237 hg w5 hbox hb; have n0_ := Aside0.mk (below_step (by repeat (first | (with_reducible first | exact HB.out | apply below_alloc | apply pw_below_drewN | apply below_drew1) | exact HB.out)) hb); have n1_ := Aside0.mk (hbox); have n2_ := Aside0.mk ((by rw [hg]; exact (below_size (by repeat (first | (with_reducible first | exact HB.out | apply below_alloc | apply pw_below_drewN | apply below_drew1) | exact HB.out))) : w.heap.size ≤ gb237)); have n3_ := Aside0.mk ((by rw [hg]; exact (below_size (by repeat (first | (with_reducible first | exact HB.out | apply below_alloc | apply pw_below_drewN | apply below_drew1) | exact HB.out))) : w.heap.size ≤ gb237)); clear HB; have HB := n0_; have BK237 := n1_; have GW237 := n2_; have GE237 := n3_; clear n0_ n1_ n2_ n3_; clear hb hbox hg) | ((with_reducible refine gate_callee (f := 12) rfl ?_); refine goesL_ (some 9) rfl rfl Tryd.func12 (by kernel_rfl) rfl #[.slice A0 l0.length c0] rfl (by (try simp only [List.map_toArray, List.map_cons, List.map_nil]); first | done | rfl | (simp only [List.length_drop, List.length_take]; rfl)) ?_; (with_reducible refine (quietusref05_Check.calls k _ _ l0 t238 _ ?side1 ?side2 A3.out).mono ?_); (case side1 => repeat (first | exact (Kd.C_below HR0.out HB.out) | (with_reducible refine Kd.C_alloc ?_ _) | (with_reducible refine Kd.C_drewN ?_ _) | (with_reducible refine Kd.C_drew ?_))); (case side2 => exact HC0.out); rintro e w' ⟨rfl, ⟨nd, rfl⟩⟩; refine ⟨_, rfl, ?_⟩))
 (try simp only [Act.put, List.setIfInBounds_toArray, List.set_cons_zero, List.set_cons_succ])
 go_cut [5] (fun v5 wc => ∃ (kq : Nat) (x5_3 : Int), v5 = .int .i64 x5_3 ∧ Aside0 (quietusref05_Product.j0 kq l0 l1 x5_3 = some (r1, r2)) ∧ Aside0 (kq ≤ k) ∧ Aside0 (wc.heap[gb237]? = some (.cells #[(.slice none 0 0), .int .i64 0] 35 (0, 0))) ∧ Aside0 (Below w.heap.size w wc))
 case first =>
  have H := HC4.out
  clear HC4
  by_cases c6 : t238 = 0
  ·rw [if_pos c6] at H
   have c6b0 : (t238 == 0) = true := beq_iff_eq.mpr c6
   have c6b1 : (t238 != 0) = false := bne_eq_false_iff_eq.mpr c6
   clear c6
   (first | rw [c6b0] | (simp only [i64_w, i32_w]; rw [c6b0]) | skip)
   replace H := Option.bind_eq_some_iff.mp H
   obtain ⟨t239, A70, H⟩ := H
   replace H : (quietusref05_Product.j0 k l0 l1 t239) = some (r1, r2) := H
   have A7 := Aside0.mk A70
   clear A70
   have H' := Aside0.mk H
   clear H
   go_wp2_with (first | ((with_reducible refine gate_callee (f := 12) rfl ?_); refine goesL_ (some 13) rfl rfl Tryd.func12 (by kernel_rfl) rfl #[.slice A1 l1.length c1] rfl (by (try simp only [List.map_toArray, List.map_cons, List.map_nil]); first | done | rfl | (simp only [List.length_drop, List.length_take]; rfl)) ?_; (with_reducible refine (quietusref05_Check.calls k _ _ l1 t239 _ ?side1 ?side2 A7.out).mono ?_); (case side1 => repeat (first | exact (Kd.C_below HR1.out HB.out) | (with_reducible refine Kd.C_alloc ?_ _) | (with_reducible refine Kd.C_drewN ?_ _) | (with_reducible refine Kd.C_drew ?_))); (case side2 => exact HC1.out); rintro e w' ⟨rfl, ⟨nd, rfl⟩⟩; refine ⟨_, rfl, ?_⟩))
   go_meet
   case rel => exact ⟨_, (t239), (by first | rfl | (simp; done) | (simp [*]; done)), H', ⟨by first | omega | exact Nat.le_refl _⟩, ⟨by (with_reducible repeat (first | refine blk_drewN ?_ _ | refine blk_drew ?_ | refine blk_alloc ?_ _)); exact BK237.out⟩, ⟨by repeat (first | (with_reducible first | exact HB.out | apply below_alloc | apply pw_below_drewN | apply below_drew1 | refine below_set ?_ GE237.out) | exact HB.out)⟩⟩
  ·rw [if_neg c6] at H
   have c6b0 : (t238 == 0) = false := beq_eq_false_iff_ne.mpr c6
   have c6b1 : (t238 != 0) = true := bne_iff_ne.mpr c6
   (first | rw [c6b0] | (simp only [i64_w, i32_w]; rw [c6b0]) | skip)
   have H' := Aside0.mk H
   clear H
   go_wp2
   go_meet
   case rel => exact ⟨_, (t238), (by first | rfl | (simp; done) | (simp [*]; done)), H', ⟨by first | omega | exact Nat.le_refl _⟩, ⟨by (with_reducible repeat (first | refine blk_drewN ?_ _ | refine blk_drew ?_ | refine blk_alloc ?_ _)); exact BK237.out⟩, ⟨by repeat (first | (with_reducible first | exact HB.out | apply below_alloc | apply pw_below_drewN | apply below_drew1 | refine below_set ?_ GE237.out) | exact HB.out)⟩⟩
 case rest =>
  clear HC4
  try clear c1
  try clear c2
  try clear p2
  try clear c6
  try clear c6b0
  try clear c6b1
  obtain ⟨kq, x5_3, rfl, HA, HJ3, BK237, HB⟩ := hcut
  cases kq with
  | zero => exact absurd HA.out (by simp [quietusref05_Product.j0])
  | succ kj3 =>
   have H := HA.out
   clear HA
   simp only [quietusref05_Product.j0] at H
   by_cases c8 : x5_3 = 0
   ·rw [if_pos c8] at H
    have c8b0 : (x5_3 == 0) = true := beq_iff_eq.mpr c8
    have c8b1 : (x5_3 != 0) = false := bne_eq_false_iff_eq.mpr c8
    clear c8
    replace H := Option.bind_eq_some_iff.mp H
    obtain ⟨t240, A90, H⟩ := H
    replace H : (if t240 = (l1.length : Int) then (quietusref05_Product.l0 kj3 l0 l1 ([] : List (List Int)) 0) else (some (([] : List (List Int)), 1))) = some (r1, r2) := H
    have A9 := Aside0.mk A90
    clear A90
    by_cases c10 : t240 = (l1.length : Int)
    ·rw [if_pos c10] at H
     have c10b0 : (t240 == (l1.length : Int)) = true := beq_iff_eq.mpr c10
     have c10b1 : (t240 != (l1.length : Int)) = false := bne_eq_false_iff_eq.mpr c10
     clear c10
     have H' := Aside0.mk H
     clear H
     go_wp2_with (first | ((with_reducible refine gate_callee (f := 30) rfl ?_); refine goesL_ (some 19) rfl rfl Tryd.func30 (by kernel_rfl) rfl #[.slice A0 l0.length c0] rfl (by (try simp only [List.map_toArray, List.map_cons, List.map_nil]); first | done | rfl | (simp only [List.length_drop, List.length_take]; rfl)) ?_; (with_reducible refine (quietusref05_Columns.calls _ _ l0 t240 _ ?side1 ?side2 A9.out).mono ?_); (case side1 => repeat (first | exact (Kd.C_below HR0.out HB.out) | (with_reducible refine Kd.C_alloc ?_ _) | (with_reducible refine Kd.C_drewN ?_ _) | (with_reducible refine Kd.C_drew ?_))); (case side2 => exact HC0.out); rintro e w' ⟨rfl, ⟨nd, rfl⟩⟩; refine ⟨_, rfl, ?_⟩))
     go_loopg [6, 7] kj3 (fun kq v6 v7 w' => ∃ (x6_2 : List (List Int)) (x7_2 : Int), v7 = .int .i64 x7_2 ∧ Aside0 (quietusref05_Product.l0 kq l0 l1 x6_2 x7_2 = some (r1, r2)) ∧ Aside0 (kq ≤ kj3) ∧ Aside0 (Kd.S (Kd.slice 5 (Kd.int .u8)) 43 w' w.heap.size (fun _ => True) v6 x6_2) ∧ Aside0 (w'.heap[gb237]? = some (.cells #[(.slice none 0 0), .int .i64 0] 35 (0, 0))) ∧ Aside0 (Below w.heap.size w w'))
     case atStart => exact ⟨(([] : List (List Int))), (0), (by first | rfl | (simp; done) | (simp [*]; done)), H', ⟨Nat.le_refl _⟩, ⟨by first | exact Kd.S_nil _ _ _ _ _ | exact Kd.N_nil _ _ _ _ _ | exact Kd.V_nil _ _ _ _ _ | exact Kd.Q_nil _ _ _ _ _ | exact Kd.R_nil _ _ _ _ _⟩, ⟨by (with_reducible repeat (first | refine blk_drewN ?_ _ | refine blk_drew ?_ | refine blk_alloc ?_ _)); exact BK237.out⟩, ⟨by repeat (first | (with_reducible first | exact HB.out | apply below_alloc | apply pw_below_drewN | apply below_drew1 | refine below_set ?_ GE237.out) | exact HB.out)⟩⟩
     case round =>
      clear H'
      try clear c1
      try clear c2
      try clear p2
      try clear c3
      try clear c6
      try clear c6b0
      try clear c6b1
      try clear c8
      try clear c8b0
      try clear c8b1
      try clear c10
      try clear c10b0
      try clear c10b1
      try clear p2
      obtain ⟨x6_2, x7_2, rfl, HA, HK2, HO_6, BK237, HB⟩ := hrel
      cases gk with
      | zero => exact absurd HA.out (by simp [quietusref05_Product.l0])
      | succ k2 =>
       have H := HA.out
       clear HA
       simp only [quietusref05_Product.l0] at H
       by_cases c11 : x7_2 < (l0.length : Int)
       ·rw [if_pos c11] at H
        have c11b0 : decide (x7_2 < (l0.length : Int)) = true := decide_eq_true c11
        clear c11
        by_cases c12 : 0 ≤ x7_2
        ·rw [if_pos c12] at H
         have c12b0 : decide (0 ≤ x7_2) = true := decide_eq_true c12
         clear c12
         replace H := Option.bind_eq_some_iff.mp H
         obtain ⟨t242, A130, H⟩ := H
         replace H : ((quietusref05_Combine.f k2 (rd_L1 l0 x7_2) l1 t242).bind fun t243 => (if x6_2.length < 5864062014805 then (quietusref05_Product.l0 k2 l0 l1 (x6_2 ++ [t243]) (wrap64 (x7_2 + 1))) else (none))) = some (r1, r2) := H
         have A13 := Aside0.mk A130
         clear A130
         replace H := Option.bind_eq_some_iff.mp H
         obtain ⟨t243, A140, H⟩ := H
         replace H : (if x6_2.length < 5864062014805 then (quietusref05_Product.l0 k2 l0 l1 (x6_2 ++ [t243]) (wrap64 (x7_2 + 1))) else (none)) = some (r1, r2) := H
         have A14 := Aside0.mk A140
         clear A140
         by_cases c15 : x6_2.length < 5864062014805
         ·rw [if_pos c15] at H
          have LMc15 := Aside0.mk c15
          clear c15
          obtain ⟨y246, hy246⟩ : ∃ y_ : List (List Int), y_ = (x6_2 ++ [t243]) := ⟨_, rfl⟩
          replace H : (quietusref05_Product.l0 k2 l0 l1 y246 (wrap64 (x7_2 + 1))) = some (r1, r2) := by first | (rw [hy246]; with_reducible exact H) | (have H2_ := (Option.bind_some _ _).symm.trans H; rw [hy246]; with_reducible exact H2_) | (have H2_ := (Option.bind_some _ _).symm.trans H; with_reducible exact H2_) | with_reducible exact H | (rw [hy246]; exact H) | exact H
          have Ny246 := Aside0.mk hy246
          clear hy246
          have H' := Aside0.mk H
          clear H
          try go_wp2
          have n0_ := Aside0.mk (Kd.S_drew HO_6.out)
          have n1_ := Aside0.mk (blk_drew BK237.out)
          have n2_ := Aside0.mk (below_drew1 HB.out)
          clear HO_6
          clear BK237
          clear HB
          have HO_6 := n0_
          have BK237 := n1_
          have HB := n2_
          clear n0_ n1_ n2_
          have p241 : 0 ≤ (x7_2 : Int) := of_decide_eq_true (by first | (with_reducible assumption) | assumption)
          have q241 : x7_2 < (l0.length : Int) := of_decide_eq_true (by first | (with_reducible assumption) | assumption)
          obtain ⟨ad241, A241_0, c241_0, e241, hx241_0, hl241_0, hi241_0⟩ := at_L1 HR0.out x7_2 p241 q241
          have hw241_0 := hx241_0
          cases e241
          replace hx241_0 := (HB.out.cell (World.block_lt_of_cell? w _ hx241_0)).trans hx241_0
          have HR241_0 := Aside0.mk hi241_0
          have HC241_0 := Aside0.mk hl241_0
          clear hi241_0 hl241_0
          replace p241 := eq_true p241
          replace q241 := eq_true q241
          refine start_ (n := 12) (S := fun w' => w'.cell? (ad241.add (x7_2).toNat) = some (.slice A241_0 (rd_L1 l0 x7_2).length c241_0)) (ds := []) #[false, false, false, false, false, false, false, false, false, false, false, false] (by kernel_rfl) rfl rfl (((HB.out.cell (World.block_lt_of_cell? w _ hw241_0)).trans hw241_0)) (fun hHeld => ?_); refine with_tabW quietusref05_Product.tab12 quietusref05_Product.bits12 (fun HT_ HW_ => ?_)
          generalize wr.drew = w16 at HO_6 BK237 HB HR241_0 hx241_0 hHeld ⊢
          refine pure_ (i := 0) (N := some 30) (v := ?_) (a' := ?_) #[true, false, false, false, false, false, false, false, false, false, false, false] rfl rfl (any_of HT_.out (by kernel_rfl)) (fun _ _ _ h => h) (Or.inl ⟨by rfl, ?_⟩) ?_ ?_
          rotate_left
          ·intro w'
           go_simp
           with_reducible rfl
          rotate_left
          ·simp only [Act.put, List.setIfInBounds_toArray, List.set_cons_zero, List.set_cons_succ, i64_w, i32_w]
           rfl
          refine pure_ (i := 1) (N := some 31) (v := ?_) (a' := ?_) #[true, true, false, false, false, false, false, false, false, false, false, false] rfl rfl (any_of HT_.out (by kernel_rfl)) (fun _ _ _ h => h) (Or.inl ⟨by rfl, ?_⟩) ?_ ?_
          rotate_left
          ·intro w'
           go_simp
           with_reducible rfl
          rotate_left
          ·simp only [Act.put, List.setIfInBounds_toArray, List.set_cons_zero, List.set_cons_succ, i64_w, i32_w]
           rfl
          refine pure_ (i := 2) (N := some 32) (v := ?_) (a' := ?_) #[true, true, true, false, false, false, false, false, false, false, false, false] rfl rfl (any_of HT_.out (by kernel_rfl)) (fun _ _ _ h => h) (Or.inl ⟨by rfl, ?_⟩) ?_ ?_
          rotate_left
          ·intro w'
           go_simp
           with_reducible rfl
          rotate_left
          ·simp only [Act.put, List.setIfInBounds_toArray, List.set_cons_zero, List.set_cons_succ, i64_w, i32_w]
           rfl
          refine pure_ (i := 3) (N := some 33) (v := ?_) (a' := ?_) #[true, true, true, true, false, false, false, false, false, false, false, false] rfl rfl (any_of HT_.out (by kernel_rfl)) (fun _ _ _ h => h) (Or.inl ⟨by rfl, ?_⟩) ?_ ?_
          rotate_left
          ·intro w'
           go_simp
           with_reducible rfl
          rotate_left
          ·simp only [Act.put, List.setIfInBounds_toArray, List.set_cons_zero, List.set_cons_succ, i64_w, i32_w]
           rfl
          refine pure_ (i := 5) (N := some 35) (v := ?_) (a' := ?_) #[true, true, true, true, false, true, false, false, false, false, false, false] rfl rfl (any_of HT_.out (by kernel_rfl)) (fun _ _ _ h => h) (Or.inl ⟨by rfl, ?_⟩) ?_ ?_
          rotate_left
          ·intro w'
           go_simp
           with_reducible rfl
          rotate_left
          ·simp only [Act.put, List.setIfInBounds_toArray, List.set_cons_zero, List.set_cons_succ, i64_w, i32_w]
           rfl
          refine pure_ (i := 6) (N := some 36) (v := ?_) (a' := ?_) #[true, true, true, true, false, true, true, false, false, false, false, false] rfl rfl (any_of HT_.out (by kernel_rfl)) (fun _ _ _ h => h) (Or.inl ⟨by rfl, ?_⟩) ?_ ?_
          rotate_left
          ·intro w'
           go_simp
           with_reducible rfl
          rotate_left
          ·simp only [Act.put, List.setIfInBounds_toArray, List.set_cons_zero, List.set_cons_succ, i64_w, i32_w]
           rfl
          refine take_ (i := 4) (N := some 34) (v := ?_) (a' := ?_) #[true, true, true, true, true, true, true, false, false, false, false, false] rfl rfl (take_ofW HT_.out HW_.out (by kernel_rfl)) (fun _ _ _ h => h) (Or.inl ⟨by rfl, ?_⟩) hHeld ?_ ?_
          rotate_left
          ·intro w' s0
           (try simp only [Int.toNat_natCast] at s0)
           go_simp
           with_reducible rfl
          rotate_left
          ·simp only [Act.put, List.setIfInBounds_toArray, List.set_cons_zero, List.set_cons_succ, i64_w, i32_w]
           rfl
          refine one_ (i := 7) (N := some 37) #[true, true, true, true, true, true, true, true, false, false, false, false] rfl rfl (one_of HT_.out (by kernel_rfl)) (by decide) (fun K hK => ?_)
          refine goes_ Tryd.func30 (by kernel_rfl) rfl #[.slice A1 l1.length c1] (by rfl) rfl rfl (by (try simp only [List.map_toArray, List.map_cons, List.map_nil]); first | done | rfl | (simp only [List.length_drop, List.length_take]; rfl)) ?_
          with_reducible refine (quietusref05_Columns.calls _ _ l1 t242 _ ?side1 ?side2 A13.out).mono ?_
          (case side1 => repeat (first | exact (Kd.C_below HR1.out HB.out) | (with_reducible refine Kd.C_alloc ?_ _) | (with_reducible refine Kd.C_drewN ?_ _) | (with_reducible refine Kd.C_drew ?_)))
          (case side2 => exact HC1.out)
          rintro e w' ⟨rfl, ⟨nd, rfl⟩⟩
          refine ⟨_, rfl, ?_⟩
          refine hK.out _ _ (((HB.out.cell (World.block_lt_of_cell? w _ hw241_0)).trans hw241_0)) (fun hHeld => ?_)
          clear hK K
          refine norm_ (a' := ?_) ?_ ?_
          rotate_left
          ·show Act.put _ (some 37) _ = _
           simp only [Act.put, List.setIfInBounds_toArray, List.set_cons_zero, List.set_cons_succ, i64_w, i32_w]
           rfl
          refine one_ (i := 8) (N := some 38) #[true, true, true, true, true, true, true, true, true, false, false, false] rfl rfl (one_of HT_.out (by kernel_rfl)) (by decide) (fun K hK => ?_)
          refine goes_ Tryd.func34 (by kernel_rfl) rfl #[.slice A241_0 (rd_L1 l0 x7_2).length c241_0, .slice A1 l1.length c1, .int .i64 t242] (by rfl) rfl rfl (by (try simp only [List.map_toArray, List.map_cons, List.map_nil]); first | done | rfl | (simp only [List.length_drop, List.length_take]; rfl)) ?_
          with_reducible refine (quietusref05_Combine.calls k2 _ _ (rd_L1 l0 x7_2) _ _ l1 t242 t243 _ ?side1 ?side2 ?side3 ?side4 A14.out).mono ?_
          (case side1 => repeat (first | exact (Kd.C_below HR241_0.out (by repeat (first | (with_reducible first | exact HB.out | apply below_alloc | apply pw_below_drewN | apply below_drew1 | refine below_set ?_ GE237.out) | exact HB.out))) | (with_reducible refine Kd.C_alloc ?_ _) | (with_reducible refine Kd.C_drewN ?_ _) | (with_reducible refine Kd.C_drew ?_)))
          (case side2 => exact HC241_0.out)
          (case side3 => repeat (first | exact (Kd.C_below HR1.out (by repeat (first | (with_reducible first | exact HB.out | apply below_alloc | apply pw_below_drewN | apply below_drew1 | refine below_set ?_ GE237.out) | exact HB.out))) | (with_reducible refine Kd.C_alloc ?_ _) | (with_reducible refine Kd.C_drewN ?_ _) | (with_reducible refine Kd.C_drew ?_)))
          (case side4 => exact HC1.out)
          rintro e w17 ⟨v244, rfl, ho0, hb⟩
          refine ⟨_, rfl, ?_⟩
          have n0_ := Aside0.mk (Kd.S_elder' (by (with_reducible repeat (first | apply Kd.S_alloc | apply Kd.S_drewN | apply Kd.S_drew)); exact HO_6.out) (Kd.R_base ho0) hb)
          have n1_ := Aside0.mk (Kd.R_lower ho0 (below_size (by repeat (first | (with_reducible first | exact HB.out | apply below_alloc | apply pw_below_drewN | apply below_drew1 | refine below_set ?_ GE237.out) | exact HB.out))))
          have n2_ := Aside0.mk (blk_below (g := gb237) (o := .cells #[.slice none 0 0, .int .i64 0] 35 (0, 0)) (by (with_reducible repeat (first | refine blk_drewN ?_ _ | refine blk_drew ?_ | refine blk_alloc ?_ _)); exact BK237.out) hb)
          have n3_ := Aside0.mk (below_step (by repeat (first | (with_reducible first | exact HB.out | apply below_alloc | apply pw_below_drewN | apply below_drew1 | refine below_set ?_ GE237.out) | exact HB.out)) hb)
          clear HO_6
          clear BK237
          clear HB
          have HO_6 := n0_
          have HO245 := n1_
          have BK237 := n2_
          have HB := n3_
          clear n0_ n1_ n2_ n3_
          (try clear hb)
          (try clear hb2)
          (try clear hk)
          (try clear hi)
          (try clear ho0)
          obtain ⟨Ao19, co19, eo19⟩ := Kd.R_slice HO245.out
          (first | subst eo19 | (injection eo19 with f1_ f2_ f3_; have f4_ := f1_.symm; have f5_ := f3_.symm; clear f1_ f2_ f3_; subst f4_; subst f5_))
          refine hK.out _ _ (((HB.out.cell (World.block_lt_of_cell? w _ hw241_0)).trans hw241_0)) (fun hHeld => ?_)
          clear hK K
          refine norm_ (a' := ?_) ?_ ?_
          rotate_left
          ·show Act.put _ (some 38) _ = _
           simp only [Act.put, List.setIfInBounds_toArray, List.set_cons_zero, List.set_cons_succ, i64_w, i32_w]
           rfl
          refine one_ (i := 9) (N := some 39) #[true, true, true, true, true, true, true, true, true, true, false, false] rfl rfl (one_of HT_.out (by kernel_rfl)) (by decide) (fun K hK => ?_)
          refine value_ (w1 := ?_) (v := ?_) (by rfl) rfl ?_ ?_
          rotate_left 2
          ·go_simp
           constructor
           ·rfl
           ·rfl
          refine hK.out _ _ ((World.cell?_alloc_lt _ _ _ (World.block_lt_of_cell? _ _ (((HB.out.cell (World.block_lt_of_cell? w _ hw241_0)).trans hw241_0)))).trans (((HB.out.cell (World.block_lt_of_cell? w _ hw241_0)).trans hw241_0))) (fun hHeld => ?_)
          clear hK K
          refine norm_ (a' := ?_) ?_ ?_
          rotate_left
          ·show Act.put _ (some 39) _ = _
           simp only [Act.put, List.setIfInBounds_toArray, List.set_cons_zero, List.set_cons_succ, i64_w, i32_w]
           rfl
          refine one_ (i := 10) (N := some 40) #[true, true, true, true, true, true, true, true, true, true, true, false] rfl rfl (one_of HT_.out (by kernel_rfl)) (by decide) (fun K hK => ?_)
          refine Kd.S_append_step (Kd.slice 5 (Kd.int .u8)) (w0 := w) w.heap.size (by rfl) (.tmp 30) (.tmp 39) 22 43 (.slice none 0 0) 24 rfl Tryd.underlying22 info43 rfl (by decide) (by omega) u6 x6_2 t243 [.slice Ao19 t243.length co19] (fun _ => True) (fun k_ => some k_ = (.slice Ao19 t243.length co19 : Value).ownBlock) rfl rfl ?aP (fun k_ hk_ => ((Kd.R_mono (ok' := fun k_ => ((fun _ => True)) k_ ∧ some k_ ≠ (u6 : Value).ownBlock) (Kd.R_apart' (HO245.out) (Kd.S_typed HO_6.out) (by decide)) (fun k_ hk => ⟨trivial, hk.2⟩))).1 k_ hk_.symm) ?aF ?aO ?aB ?aS ?aL ?_
          (case aP => exact Kd.M_row (Kd.R_mono (Kd.R_tight rfl (Kd.R_mono (ok' := fun k_ => ((fun _ => True)) k_ ∧ some k_ ≠ (u6 : Value).ownBlock) (Kd.R_apart' (HO245.out) (Kd.S_typed HO_6.out) (by decide)) (fun k_ hk => ⟨trivial, hk.2⟩))) (fun _ h_ => h_)))
          (case aB => exact (by repeat (first | (with_reducible first | exact HB.out | apply below_alloc | apply pw_below_drewN | apply below_drew1 | refine below_set ?_ GE237.out) | exact HB.out)))
          (case aF => exact (fun _ _ => trivial))
          (case aO => exact (by (with_reducible repeat (first | apply Kd.S_alloc | apply Kd.S_drewN | apply Kd.S_drew)); exact Kd.S_mono HO_6.out (fun k_ hk => ⟨trivial, fun e_ => hk.2 e_⟩)))
          (case aS => exact (below_size (by repeat (first | (with_reducible first | exact HB.out | apply below_alloc | apply pw_below_drewN | apply below_drew1 | refine below_set ?_ GE237.out) | exact HB.out))))
          (case aL => have := LMc15.out; omega)
          intro v247 w18 ho hb hg hat
          rw [← Ny246.out] at ho
          have n0_ := Aside0.mk (blk_grown (g := gb237) (o := .cells #[.slice none 0 0, .int .i64 0] 35 (0, 0)) (by (with_reducible repeat (first | refine blk_drewN ?_ _ | refine blk_drew ?_ | refine blk_alloc ?_ _)); exact BK237.out) hg (Kd.S_ne HO_6.out BK237.out (by decide)))
          have n1_ := Aside0.mk (hb)
          have n2_ := Aside0.mk (ho)
          clear BK237
          clear HB
          clear HO_6
          clear HO245
          have BK237 := n0_
          have HB := n1_
          have HO248 := n2_
          clear n0_ n1_ n2_
          clear ho hb hg hat
          refine hK.out _ _ (((HB.out.cell (World.block_lt_of_cell? w _ hw241_0)).trans hw241_0)) (fun hHeld => ?_)
          clear hK K
          refine norm_ (a' := ?_) ?_ ?_
          rotate_left
          ·show Act.put _ (some 40) _ = _
           simp only [Act.put, List.setIfInBounds_toArray, List.set_cons_zero, List.set_cons_succ, i64_w, i32_w]
           rfl
          refine pure_ (i := 11) (N := some 6) (v := ?_) (a' := ?_) #[true, true, true, true, true, true, true, true, true, true, true, true] rfl rfl (any_of HT_.out (by kernel_rfl)) (fun _ _ _ h => h) (Or.inl ⟨by rfl, ?_⟩) ?_ ?_
          rotate_left
          ·intro w'
           go_simp
           with_reducible rfl
          rotate_left
          ·simp only [Act.put, List.setIfInBounds_toArray, List.set_cons_zero, List.set_cons_succ, i64_w, i32_w]
           rfl
          refine done_ (done_of HT_.out (by kernel_rfl)) ?_
          try go_wp2
          go_roundg k2
          case measure => have := HJ3.out; have := HK2.out; omega
          case rel => exact ⟨(y246), (wrap64 (x7_2 + 1)), (by first | rfl | (simp; done) | (simp [*]; done)), H', ⟨by have := HJ3.out; have := HK2.out; omega⟩, ⟨by (with_reducible repeat (first | apply Kd.S_alloc | apply Kd.S_drewN | apply Kd.S_drew)); exact HO248.out⟩, ⟨by (with_reducible repeat (first | refine blk_drewN ?_ _ | refine blk_drew ?_ | refine blk_alloc ?_ _)); exact BK237.out⟩, ⟨by repeat (first | (with_reducible first | exact HB.out | apply below_alloc | apply pw_below_drewN | apply below_drew1 | refine below_set ?_ GE237.out) | exact HB.out)⟩⟩
         ·rw [if_neg c15] at H
          exact absurd H (by simp)
        ·rw [if_neg c12] at H
         exact absurd H (by simp)
       ·rw [if_neg c11] at H
        have c11b0 : decide (x7_2 < (l0.length : Int)) = false := decide_eq_false c11
        clear c11
        simp only [Option.some.injEq, Prod.mk.injEq] at H
        obtain ⟨rfl, rfl⟩ := H
        obtain ⟨Ao20, co20, eo20⟩ := Kd.S_slice HO_6.out
        subst eo20
        have hcz21_0 : wr.cell? ⟨gb237, 0, none⟩ = some (.slice none 0 0) := (blk_cell BK237.out 0).trans rfl
        have hcz21_1 : wr.cell? ⟨gb237, 1, none⟩ = some (.int .i64 0) := (blk_cell BK237.out 1).trans rfl
        have hfz21_0 := blk_frozen BK237.out 0
        have hfz21_1 := blk_frozen BK237.out 1
        go_wp2
        refine bodyPost_ret (results_cell_row rfl _ _ gb237 35 #[.slice Ao20 x6_2.length co20, .int .i64 0] (0, 0) _ rfl (by (with_reducible repeat (first | refine blk_drewN ?_ _ | refine blk_drew ?_ | refine blk_alloc ?_ _)); refine blk_put (cs := #[.slice Ao20 x6_2.length co20, .int .i64 0]) ?_ 1 _ rfl; (with_reducible repeat (first | refine blk_drewN ?_ _ | refine blk_drew ?_ | refine blk_alloc ?_ _)); refine blk_put (cs := #[.slice none 0 0, .int .i64 0]) ?_ 0 _ rfl; (with_reducible repeat (first | refine blk_drewN ?_ _ | refine blk_drew ?_ | refine blk_alloc ?_ _)); exact BK237.out) Tryd.underlying35 rfl (by kernel_rfl)) rfl ?_
        exact ⟨_, by first | rfl | (simp [errW_none, errW_some] <;> rfl) | (simp [*, errW_none, errW_some] <;> rfl), by (with_reducible repeat (first | apply Kd.S_alloc | apply Kd.S_drewN | apply Kd.S_drew)); exact Kd.S_mono (Kd.S_far (p := ⟨gb237, 1, none⟩) (Kd.S_far (p := ⟨gb237, 0, none⟩) (Kd.S_types HO_6.out BK237.out (by decide)) (fun _ hk => hk.2) (.slice Ao20 x6_2.length co20)) (fun _ hk => hk.2) (.int .i64 0)) (fun _ hk => trivial), by repeat (first | (with_reducible first | exact HB.out | apply below_alloc | apply pw_below_drewN | apply below_drew1 | refine below_set ?_ GE237.out) | exact HB.out)⟩
    ·rw [if_neg c10] at H
     have c10b0 : (t240 == (l1.length : Int)) = false := beq_eq_false_iff_ne.mpr c10
     have c10b1 : (t240 != (l1.length : Int)) = true := bne_iff_ne.mpr c10
     simp only [Option.some.injEq, Prod.mk.injEq] at H
     obtain ⟨rfl, rfl⟩ := H
     go_wp2_with (first | ((with_reducible refine gate_callee (f := 30) rfl ?_); refine goesL_ (some 19) rfl rfl Tryd.func30 (by kernel_rfl) rfl #[.slice A0 l0.length c0] rfl (by (try simp only [List.map_toArray, List.map_cons, List.map_nil]); first | done | rfl | (simp only [List.length_drop, List.length_take]; rfl)) ?_; (with_reducible refine (quietusref05_Columns.calls _ _ l0 t240 _ ?side1 ?side2 A9.out).mono ?_); (case side1 => repeat (first | exact (Kd.C_below HR0.out HB.out) | (with_reducible refine Kd.C_alloc ?_ _) | (with_reducible refine Kd.C_drewN ?_ _) | (with_reducible refine Kd.C_drew ?_))); (case side2 => exact HC0.out); rintro e w' ⟨rfl, ⟨nd, rfl⟩⟩; refine ⟨_, rfl, ?_⟩; (try (rw [drewN_self wc]; generalize hq_ : World.drewN wc _ = wc; have n0_ : Aside0 (wc.heap[gb237]? = some (.cells #[.slice none 0 0, .int .i64 0] 35 (0, 0))) := ⟨by rw [← hq_]; exact (by (with_reducible repeat (first | refine blk_drewN ?_ _ | refine blk_drew ?_ | refine blk_alloc ?_ _)); exact BK237.out)⟩; have n1_ : Aside0 (Below w.heap.size w wc) := ⟨by rw [← hq_]; exact (by repeat (first | (with_reducible first | exact HB.out | apply below_alloc | apply pw_below_drewN | apply below_drew1 | refine below_set ?_ GE237.out) | exact HB.out))⟩; clear BK237 HB hq_; have BK237 := n0_; have HB := n1_; clear n0_ n1_)); have hcz22_0 : wc.cell? ⟨gb237, 0, none⟩ = some (.slice none 0 0) := (blk_cell BK237.out 0).trans rfl; have hcz22_1 : wc.cell? ⟨gb237, 1, none⟩ = some (.int .i64 0) := (blk_cell BK237.out 1).trans rfl; have hfz22_0 := blk_frozen BK237.out 0; have hfz22_1 := blk_frozen BK237.out 1))
     refine bodyPost_ret (results_cell_row rfl _ _ gb237 35 #[.slice none 0 0, .int .i64 1] (0, 0) _ rfl (by (with_reducible repeat (first | refine blk_drewN ?_ _ | refine blk_drew ?_ | refine blk_alloc ?_ _)); refine blk_put (cs := #[.slice none 0 0, .int .i64 0]) ?_ 1 _ rfl; (with_reducible repeat (first | refine blk_drewN ?_ _ | refine blk_drew ?_ | refine blk_alloc ?_ _)); refine blk_put (cs := #[.slice none 0 0, .int .i64 0]) ?_ 0 _ rfl; (with_reducible repeat (first | refine blk_drewN ?_ _ | refine blk_drew ?_ | refine blk_alloc ?_ _)); exact BK237.out) Tryd.underlying35 rfl (by kernel_rfl)) rfl ?_
     exact ⟨_, by first | rfl | (simp [errW_none, errW_some] <;> rfl) | (simp [*, errW_none, errW_some] <;> rfl), by first | exact Kd.S_nil _ _ _ _ _ | exact Kd.N_nil _ _ _ _ _ | exact Kd.V_nil _ _ _ _ _ | exact Kd.Q_nil _ _ _ _ _ | exact Kd.R_nil _ _ _ _ _, by repeat (first | (with_reducible first | exact HB.out | apply below_alloc | apply pw_below_drewN | apply below_drew1 | refine below_set ?_ GE237.out) | exact HB.out)⟩
   ·rw [if_neg c8] at H
    have c8b0 : (x5_3 == 0) = false := beq_eq_false_iff_ne.mpr c8
    have c8b1 : (x5_3 != 0) = true := bne_iff_ne.mpr c8
    simp only [Option.some.injEq, Prod.mk.injEq] at H
    obtain ⟨rfl, rfl⟩ := H
    have hcz23_0 : wc.cell? ⟨gb237, 0, none⟩ = some (.slice none 0 0) := (blk_cell BK237.out 0).trans rfl
    have hcz23_1 : wc.cell? ⟨gb237, 1, none⟩ = some (.int .i64 0) := (blk_cell BK237.out 1).trans rfl
    have hfz23_0 := blk_frozen BK237.out 0
    have hfz23_1 := blk_frozen BK237.out 1
    go_wp2
    refine bodyPost_ret (results_cell_row rfl _ _ gb237 35 #[.slice none 0 0, .int .i64 x5_3] (0, 0) _ rfl (by (with_reducible repeat (first | refine blk_drewN ?_ _ | refine blk_drew ?_ | refine blk_alloc ?_ _)); refine blk_put (cs := #[.slice none 0 0, .int .i64 0]) ?_ 1 _ rfl; (with_reducible repeat (first | refine blk_drewN ?_ _ | refine blk_drew ?_ | refine blk_alloc ?_ _)); refine blk_put (cs := #[.slice none 0 0, .int .i64 0]) ?_ 0 _ rfl; (with_reducible repeat (first | refine blk_drewN ?_ _ | refine blk_drew ?_ | refine blk_alloc ?_ _)); exact BK237.out) Tryd.underlying35 rfl (by kernel_rfl)) rfl ?_
    exact ⟨_, by first | rfl | (simp [errW_none, errW_some] <;> rfl) | (simp [*, errW_none, errW_some] <;> rfl), by first | exact Kd.S_nil _ _ _ _ _ | exact Kd.N_nil _ _ _ _ _ | exact Kd.V_nil _ _ _ _ _ | exact Kd.Q_nil _ _ _ _ _ | exact Kd.R_nil _ _ _ _ _, by repeat (first | (with_reducible first | exact HB.out | apply below_alloc | apply pw_below_drewN | apply below_drew1 | refine below_set ?_ GE237.out) | exact HB.out)⟩
-- NOT PRINTED: function 5 (quietuslaw05_MatrixProductsAsSpecified)
def quietusref05_column.l0 : Nat → List (List Int) → Int → List Int → Int → Option (List Int)
 | 0, _, _, _, _ => none
 | k + 1, x0, x1, x5, x6 => if x6 < (x0.length : Int) then (if 0 ≤ x6 then (if 0 ≤ x1 then (if x1 < ((rd_L1 x0 x6).length : Int) then (if x5.length < 140737488355328 then (quietusref05_column.l0 k x0 x1 (x5 ++ [rd (rd_L1 x0 x6) x1]) (wrap64 (x6 + 1))) else (none)) else (none)) else (none)) else (none)) else (some x5)
def quietusref05_column.f (k : Nat) (l0 : List (List Int)) (a1 : Int) : Option (List Int) := quietusref05_column.l0 k l0 a1 ([] : List Int) 0
theorem quietusref05_column.mono_l : ∀ k, (∀ y0 y1 y2 y3, LeO (quietusref05_column.l0 k y0 y1 y2 y3) (quietusref05_column.l0 (k + 1) y0 y1 y2 y3))
 | 0 => fun _ _ _ _ r h => by simp [quietusref05_column.l0] at h
 | k + 1 => by
  have ih0 := quietusref05_column.mono_l k
  ·intro y0 y1 y2 y3
   unfold quietusref05_column.l0
   repeat' first
   | (with_reducible exact ih0 _ _ _ _)
   | (with_reducible exact LeO.refl _)
   | (with_reducible exact LeO.none _)
   | (with_reducible refine LeO.ite ?_ ?_)
   | (with_reducible refine LeO.bind ?_ (fun _ => ?_))
   | exact ih0 _ _ _ _
   | exact LeO.none _
   | refine LeO.ite ?_ ?_
   | refine LeO.bind ?_ (fun _ => ?_)
theorem quietusref05_column.mono : ∀ a0 a1 k, LeO (quietusref05_column.f k a0 a1) (quietusref05_column.f (k + 1) a0 a1) := by
 intro a0 a1 k
 have ih0 := quietusref05_column.mono_l k
 unfold quietusref05_column.f
 repeat' first
   | (with_reducible exact ih0 _ _ _ _)
   | (with_reducible exact LeO.refl _)
   | (with_reducible exact LeO.none _)
   | (with_reducible refine LeO.ite ?_ ?_)
   | (with_reducible refine LeO.bind ?_ (fun _ => ?_))
   | exact ih0 _ _ _ _
   | exact LeO.none _
   | refine LeO.ite ?_ ?_
   | refine LeO.bind ?_ (fun _ => ?_)
def quietusref05_Transpose.l0 : Nat → List (List Int) → List (List Int) → Int → Option ((List (List Int)) × Int)
 | 0, _, _, _ => none
 | k + 1, x0, x4, x5 => (quietusref05_Columns.f x0).bind fun t305 => (if x5 < t305 then ((quietusref05_column.f k x0 x5).bind fun t306 => (if x4.length < 5864062014805 then (quietusref05_Transpose.l0 k x0 (x4 ++ [t306]) (wrap64 (x5 + 1))) else (none))) else (some (x4, 0)))
def quietusref05_Transpose.f (k : Nat) (l0 : List (List Int)) : Option ((List (List Int)) × Int) := (quietusref05_Check.f k l0).bind fun t304 => (if t304 = 0 then (quietusref05_Transpose.l0 k l0 ([] : List (List Int)) 0) else (some (([] : List (List Int)), t304)))
theorem quietusref05_Transpose.mono_l : ∀ k, (∀ y0 y1 y2, LeO (quietusref05_Transpose.l0 k y0 y1 y2) (quietusref05_Transpose.l0 (k + 1) y0 y1 y2))
 | 0 => fun _ _ _ r h => by simp [quietusref05_Transpose.l0] at h
 | k + 1 => by
  have ih0 := quietusref05_Transpose.mono_l k
  ·intro y0 y1 y2
   unfold quietusref05_Transpose.l0
   repeat' first
   | (with_reducible exact ih0 _ _ _)
   | (with_reducible exact quietusref05_Check.mono _ _)
   | (with_reducible exact quietusref05_column.mono _ _ _)
   | (with_reducible exact LeO.refl _)
   | (with_reducible exact LeO.none _)
   | (with_reducible refine LeO.ite ?_ ?_)
   | (with_reducible refine LeO.bind ?_ (fun _ => ?_))
   | exact ih0 _ _ _
   | exact quietusref05_Check.mono _ _
   | exact quietusref05_column.mono _ _ _
   | exact LeO.none _
   | refine LeO.ite ?_ ?_
   | refine LeO.bind ?_ (fun _ => ?_)
theorem quietusref05_Transpose.mono : ∀ a0 k, LeO (quietusref05_Transpose.f k a0) (quietusref05_Transpose.f (k + 1) a0) := by
 intro a0 k
 have ih0 := quietusref05_Transpose.mono_l k
 unfold quietusref05_Transpose.f
 repeat' first
   | (with_reducible exact ih0 _ _ _)
   | (with_reducible exact quietusref05_Check.mono _ _)
   | (with_reducible exact quietusref05_column.mono _ _ _)
   | (with_reducible exact LeO.refl _)
   | (with_reducible exact LeO.none _)
   | (with_reducible refine LeO.ite ?_ ?_)
   | (with_reducible refine LeO.bind ?_ (fun _ => ?_))
   | exact ih0 _ _ _
   | exact quietusref05_Check.mono _ _
   | exact quietusref05_column.mono _ _ _
   | exact LeO.none _
   | refine LeO.ite ?_ ?_
   | refine LeO.bind ?_ (fun _ => ?_)
def quietuslaw05_mapped.f (k : Nat) (l0 : List (List Int)) (l1 : List Int) (l2 : List Int) : Option (Bool) := (quietusref05_Transpose.f k l0).bind fun bt312 => ((quietusref05_Combine.f k l1 bt312.1 (l0.length : Int)).bind fun t317 => ((quietusref05_SameRow.f k t317 l2).bind fun t320 => (some t320)))
theorem quietuslaw05_mapped.mono : ∀ a0 a1 a2 k, LeO (quietuslaw05_mapped.f k a0 a1 a2) (quietuslaw05_mapped.f (k + 1) a0 a1 a2) := by
 intro a0 a1 a2 k
 unfold quietuslaw05_mapped.f
 repeat' first
   | (with_reducible exact quietusref05_Combine.mono _ _ _ _)
   | (with_reducible exact quietusref05_SameRow.mono _ _ _)
   | (with_reducible exact quietusref05_Transpose.mono _ _)
   | (with_reducible exact LeO.refl _)
   | (with_reducible exact LeO.none _)
   | (with_reducible refine LeO.ite ?_ ?_)
   | (with_reducible refine LeO.bind ?_ (fun _ => ?_))
   | exact quietusref05_Combine.mono _ _ _ _
   | exact quietusref05_SameRow.mono _ _ _
   | exact quietusref05_Transpose.mono _ _
   | exact LeO.none _
   | refine LeO.ite ?_ ?_
   | refine LeO.bind ?_ (fun _ => ?_)
-- NOT PRINTED: function 6 (quietuslaw05_MatrixSolutionsAreAll)
def quietusref05_Identity.l0 : Nat → Int → List (List Int) → Int → Option ((List (List Int)))
 | 0, _, _, _ => none
 | k + 1, x0, x3, x4 => if x4 < x0 then (if 0 ≤ x0 then (if (x0 : Int).toNat ≤ 281474976710656 then ((some (List.replicate (x0 : Int).toNat 0 : List Int)).bind fun y321 => (if 0 ≤ x4 then (if x4 < (y321.length : Int) then (if x3.length < 5864062014805 then (quietusref05_Identity.l0 k x0 (x3 ++ [(y321.set (x4 : Int).toNat 1)]) (wrap64 (x4 + 1))) else (none)) else (none)) else (none))) else (none)) else (none)) else (some x3)
def quietusref05_Identity.f (k : Nat) (a0 : Int) : Option ((List (List Int))) := quietusref05_Identity.l0 k a0 ([] : List (List Int)) 0
theorem quietusref05_Identity.mono_l : ∀ k, (∀ y0 y1 y2, LeO (quietusref05_Identity.l0 k y0 y1 y2) (quietusref05_Identity.l0 (k + 1) y0 y1 y2))
 | 0 => fun _ _ _ r h => by simp [quietusref05_Identity.l0] at h
 | k + 1 => by
  have ih0 := quietusref05_Identity.mono_l k
  ·intro y0 y1 y2
   unfold quietusref05_Identity.l0
   repeat' first
   | (with_reducible exact ih0 _ _ _)
   | (with_reducible exact LeO.refl _)
   | (with_reducible exact LeO.none _)
   | (with_reducible refine LeO.ite ?_ ?_)
   | (with_reducible refine LeO.bind ?_ (fun _ => ?_))
   | exact ih0 _ _ _
   | exact LeO.none _
   | refine LeO.ite ?_ ?_
   | refine LeO.bind ?_ (fun _ => ?_)
theorem quietusref05_Identity.mono : ∀ a0 k, LeO (quietusref05_Identity.f k a0) (quietusref05_Identity.f (k + 1) a0) := by
 intro a0 k
 have ih0 := quietusref05_Identity.mono_l k
 unfold quietusref05_Identity.f
 repeat' first
   | (with_reducible exact ih0 _ _ _)
   | (with_reducible exact LeO.refl _)
   | (with_reducible exact LeO.none _)
   | (with_reducible refine LeO.ite ?_ ?_)
   | (with_reducible refine LeO.bind ?_ (fun _ => ?_))
   | exact ih0 _ _ _
   | exact LeO.none _
   | refine LeO.ite ?_ ?_
   | refine LeO.bind ?_ (fun _ => ?_)
end Go.Proofs.YtijebgceopddmaaDoor.Pa
end
section
set_option linter.unusedVariables false
namespace Go.Proofs.YtijebgceopddmaaDoor.Ax
open Go.RowKit Go.Proofs.YtijebgceopddmaaDoorW.PrintWords Go.Proofs.YtijebgceopddmaaDoor.Gf Go.Proofs.YtijebgceopddmaaDoor.Pa
theorem gamOk : GamOk HighIn := fun W0 h0 W W' hb h j hj => (hb.cell (p := ⟨0, j, none⟩) h0.size).trans (h j hj)
theorem drawn_below {W W' : World} (h : Drawn0 W W') : Below W.heap.size W W' := by obtain ⟨n, rfl⟩ := h.out; exact pw_below_drewN (Below.refl _ _) n
section
variable {ok : Nat → Prop} {W : World} {v : Value} {k : IntKind}
theorem at_grid {xss : List (List Int)} (h : Rep ok W v (gridD k xss)) : ∃ A c, v = .slice A xss.length c ∧ xss.length ≤ c ∧ (Kd.slice 5 (Kd.int k)).C W A xss.length xss ∧ Kd.V (Kd.slice 5 (Kd.int k)) 43 W W.heap.size (fun q => ok q) v xss := by
  obtain ⟨A, c, rfl, hl⟩ := rep_slice h
  rw [List.length_map] at h hl ⊢
  exact ⟨A, c, rfl, hl, (rep_C_grid h).2.2, Kd.V_mk hl (rep_F_grid h)⟩
theorem at_row {xs : List Int} (h : Rep ok W v (rowD k xs)) : ∃ A c, v = .slice A xs.length c ∧ xs.length ≤ c ∧ (Kd.int k).C W A xs.length xs := by
  obtain ⟨A, c, rfl, hl⟩ := rep_slice h
  rw [List.length_map] at h hl ⊢
  exact ⟨A, c, rfl, hl, (rep_C_int h).2.2⟩
theorem tup2 {u1 u2 : Value} {x1 x2 : D} (h1 : Rep ok W u1 x1) (h2 : Rep ok W u2 x2) : RepR ok W (.tuple #[u1, u2]) (.tup [x1, x2]) :=
  ⟨_, rfl, rfl, fun i u y hu hy => by
    match i with
    | 0 => simp at hu hy; subst hu hy; exact h1
    | 1 => simp at hu hy; subst hu hy; exact h2
    | i + 2 => simp at hy⟩
theorem tup3 {u1 u2 u3 : Value} {x1 x2 x3 : D} (h1 : Rep ok W u1 x1) (h2 : Rep ok W u2 x2) (h3 : Rep ok W u3 x3) : RepR ok W (.tuple #[u1, u2, u3]) (.tup [x1, x2, x3]) :=
  ⟨_, rfl, rfl, fun i u y hu hy => by
    match i with
    | 0 => simp at hu hy; subst hu hy; exact h1
    | 1 => simp at hu hy; subst hu hy; exact h2
    | 2 => simp at hu hy; subst hu hy; exact h3
    | i + 3 => simp at hy⟩
theorem agg2 {u1 u2 : Value} {x1 x2 : D} (o1 : u1.oneCell' = true) (o2 : u2.oneCell' = true) (h1 : Rep ok W u1 x1) (h2 : Rep ok W u2 x2) : RepR ok W (.agg #[u1, u2]) (.d (.agg [x1, x2])) :=
  Rep.agg _ _ rfl (fun i u hu => by
    match i with
    | 0 => simp at hu; subst hu; exact o1
    | 1 => simp at hu; subst hu; exact o2
    | i + 2 => simp at hu) (fun i u y hu hy => by
    match i with
    | 0 => simp at hu hy; subst hu hy; exact h1
    | 1 => simp at hu hy; subst hu hy; exact h2
    | i + 2 => simp at hy)
theorem one_grid {xss : List (List Int)} (h : Rep ok W v (gridD k xss)) : v.oneCell' = true := by obtain ⟨A, c, rfl, _⟩ := rep_slice h; rfl
end
theorem sp10 {k : Nat} {l0 : List (List Int)} {a1 : Int} {r1 : Bool} (h : quietusref05_Few.f k l0 a1 = some (r1)) : Spec Tryd.prog HighIn 10 ([gridD .u8 l0, iD .i64 a1].map T.d) (.d (D.val (.bool r1))) := by
  refine ⟨⟨_, Tryd.func10, by kernel_rfl, by kernel_rfl⟩, _, rfl, fun ok W vs hG hl hargs => ?_⟩
  match vs, hl, hargs with
  | [v0, v1], _, hargs =>
    have g0 := hargs 0 _ _ rfl rfl
    obtain ⟨A0, c0, rfl, k0, C0, V0⟩ := at_grid g0
    have g1 := hargs 1 _ _ rfl rfl
    obtain rfl := rep_int g1
    refine (quietusref05_Few.calls k A0 c0 l0 a1 r1 W C0 k0 h).mono ?_
    rintro e W' ⟨rfl, hb⟩
    exact ⟨_, rfl, (Rep.val _ rfl), drawn_below hb⟩
theorem sp16 {k : Nat} {l0 : List (List Int)} {r1 : Int} (h : matrix_Check.f k l0 = some (r1)) : Spec Tryd.prog HighIn 16 ([gridD .u8 l0].map T.d) (.d (iD .i64 r1)) := by
  refine ⟨⟨_, Tryd.func16, by kernel_rfl, by kernel_rfl⟩, _, rfl, fun ok W vs hG hl hargs => ?_⟩
  match vs, hl, hargs with
  | [v0], _, hargs =>
    have g0 := hargs 0 _ _ rfl rfl
    obtain ⟨A0, c0, rfl, k0, C0, V0⟩ := at_grid g0
    refine (matrix_Check.calls k A0 c0 l0 r1 W C0 k0 h).mono ?_
    rintro e W' ⟨rfl, hb⟩
    exact ⟨_, rfl, (Rep.val _ rfl), drawn_below hb⟩
theorem sp13 {k : Nat} {l0 : List (List Int)} {r1 : List (List Int)} {r2 : Int} (h : matrix_Transpose.f k l0 = some (r1, r2)) : Spec Tryd.prog HighIn 13 ([gridD .u8 l0].map T.d) (.tup [gridD .u8 r1, iD .i64 r2]) := by
  refine ⟨⟨_, Tryd.func13, by kernel_rfl, by kernel_rfl⟩, _, rfl, fun ok W vs hG hl hargs => ?_⟩
  match vs, hl, hargs with
  | [v0], _, hargs =>
    have g0 := hargs 0 _ _ rfl rfl
    obtain ⟨A0, c0, rfl, k0, C0, V0⟩ := at_grid g0
    refine (matrix_Transpose.calls k A0 c0 l0 r1 r2 W hG C0 k0 h).mono ?_
    rintro e W' ⟨x0, rfl, m0, hb⟩
    exact ⟨_, rfl, tup2 ((S_rep_grid m0).mono fun q hq _ => .inr hq) (Rep.val _ rfl), hb⟩
theorem sp14 {k : Nat} {l0 : List (List Int)} {r1 : List (List Int)} {r2 : List Int} {r3 : Int} (h : matrix_Reduce.f k l0 = some (r1, r2, r3)) : Spec Tryd.prog HighIn 14 ([gridD .u8 l0].map T.d) (.tup [gridD .u8 r1, rowD .i64 r2, iD .i64 r3]) := by
  refine ⟨⟨_, Tryd.func14, by kernel_rfl, by kernel_rfl⟩, _, rfl, fun ok W vs hG hl hargs => ?_⟩
  match vs, hl, hargs with
  | [v0], _, hargs =>
    have g0 := hargs 0 _ _ rfl rfl
    obtain ⟨A0, c0, rfl, k0, C0, V0⟩ := at_grid g0
    refine (matrix_Reduce.calls k A0 c0 l0 r1 r2 r3 W hG C0 k0 h).mono ?_
    rintro e W' ⟨x0, x1, rfl, m0, m1, hb⟩
    exact ⟨_, rfl, tup3 ((S_rep_grid m0).mono fun q hq _ => .inr hq) ((R_rep_int m1).mono fun q hq _ => .inr hq) (Rep.val _ rfl), hb⟩
theorem sp15 {k : Nat} {l0 : List (List Int)} {r1 : Int} {r2 : Int} (h : matrix_Rank.f k l0 = some (r1, r2)) : Spec Tryd.prog HighIn 15 ([gridD .u8 l0].map T.d) (.tup [iD .i64 r1, iD .i64 r2]) := by
  refine ⟨⟨_, Tryd.func15, by kernel_rfl, by kernel_rfl⟩, _, rfl, fun ok W vs hG hl hargs => ?_⟩
  match vs, hl, hargs with
  | [v0], _, hargs =>
    have g0 := hargs 0 _ _ rfl rfl
    obtain ⟨A0, c0, rfl, k0, C0, V0⟩ := at_grid g0
    refine (matrix_Rank.calls k A0 c0 l0 r1 r2 W hG C0 k0 h).mono ?_
    rintro e W' ⟨rfl, hb⟩
    exact ⟨_, rfl, tup2 (Rep.val _ rfl) (Rep.val _ rfl), hb⟩
theorem sp27 {k : Nat} {l0 : List Int} {l1 : List Int} {r1 : Bool} (h : quietusref05_SameRow.f k l0 l1 = some (r1)) : Spec Tryd.prog HighIn 27 ([rowD .u8 l0, rowD .u8 l1].map T.d) (.d (D.val (.bool r1))) := by
  refine ⟨⟨_, Tryd.func27, by kernel_rfl, by kernel_rfl⟩, _, rfl, fun ok W vs hG hl hargs => ?_⟩
  match vs, hl, hargs with
  | [v0, v1], _, hargs =>
    have g0 := hargs 0 _ _ rfl rfl
    obtain ⟨A0, c0, rfl, k0, C0⟩ := at_row g0
    have g1 := hargs 1 _ _ rfl rfl
    obtain ⟨A1, c1, rfl, k1, C1⟩ := at_row g1
    refine (quietusref05_SameRow.calls k A0 c0 l0 A1 c1 l1 r1 W C0 k0 C1 k1 h).mono ?_
    rintro e W' ⟨rfl, hb⟩
    exact ⟨_, rfl, (Rep.val _ rfl), drawn_below hb⟩
theorem sp19 {k : Nat} {l0 : List (List Int)} {l1 : List (List Int)} {r1 : Bool} (h : quietusref05_Same.f k l0 l1 = some (r1)) : Spec Tryd.prog HighIn 19 ([gridD .u8 l0, gridD .u8 l1].map T.d) (.d (D.val (.bool r1))) := by
  refine ⟨⟨_, Tryd.func19, by kernel_rfl, by kernel_rfl⟩, _, rfl, fun ok W vs hG hl hargs => ?_⟩
  match vs, hl, hargs with
  | [v0, v1], _, hargs =>
    have g0 := hargs 0 _ _ rfl rfl
    obtain ⟨A0, c0, rfl, k0, C0, V0⟩ := at_grid g0
    have g1 := hargs 1 _ _ rfl rfl
    obtain ⟨A1, c1, rfl, k1, C1, V1⟩ := at_grid g1
    refine (quietusref05_Same.calls k A0 c0 l0 A1 c1 l1 r1 W C0 k0 C1 k1 h).mono ?_
    rintro e W' ⟨rfl, hb⟩
    exact ⟨_, rfl, (Rep.val _ rfl), drawn_below hb⟩
theorem sp20 {k : Nat} {l0 : List Int} {l1 : List Int} {r1 : Bool} (h : quietusref05_SameList.f k l0 l1 = some (r1)) : Spec Tryd.prog HighIn 20 ([rowD .i64 l0, rowD .i64 l1].map T.d) (.d (D.val (.bool r1))) := by
  refine ⟨⟨_, Tryd.func20, by kernel_rfl, by kernel_rfl⟩, _, rfl, fun ok W vs hG hl hargs => ?_⟩
  match vs, hl, hargs with
  | [v0, v1], _, hargs =>
    have g0 := hargs 0 _ _ rfl rfl
    obtain ⟨A0, c0, rfl, k0, C0⟩ := at_row g0
    have g1 := hargs 1 _ _ rfl rfl
    obtain ⟨A1, c1, rfl, k1, C1⟩ := at_row g1
    refine (quietusref05_SameList.calls k A0 c0 l0 A1 c1 l1 r1 W C0 k0 C1 k1 h).mono ?_
    rintro e W' ⟨rfl, hb⟩
    exact ⟨_, rfl, (Rep.val _ rfl), drawn_below hb⟩
theorem sp21 {k : Nat} {l0 : List (List Int)} {l1 : List Int} {r1 : List Int} {r2 : List (List Int)} {r3 : Int} (h : matrix_Solve.f k l0 l1 = some (r1, r2, r3)) : Spec Tryd.prog HighIn 21 ([gridD .u8 l0, rowD .u8 l1].map T.d) (.tup [rowD .u8 r1, gridD .u8 r2, iD .i64 r3]) := by
  refine ⟨⟨_, Tryd.func21, by kernel_rfl, by kernel_rfl⟩, _, rfl, fun ok W vs hG hl hargs => ?_⟩
  match vs, hl, hargs with
  | [v0, v1], _, hargs =>
    have g0 := hargs 0 _ _ rfl rfl
    obtain ⟨A0, c0, rfl, k0, C0, V0⟩ := at_grid g0
    have g1 := hargs 1 _ _ rfl rfl
    obtain ⟨A1, c1, rfl, k1, C1⟩ := at_row g1
    refine (matrix_Solve.calls k A0 c0 l0 A1 c1 l1 r1 r2 r3 W hG C0 k0 C1 k1 h).mono ?_
    rintro e W' ⟨x0, x1, rfl, m0, m1, hb⟩
    exact ⟨_, rfl, tup3 ((R_rep_int m0).mono fun q hq _ => .inr hq) ((S_rep_grid m1).mono fun q hq _ => .inr hq) (Rep.val _ rfl), hb⟩
theorem sp23 {k : Nat} {l0 : List (List Int)} {r1 : List (List Int)} {r2 : Int} (h : matrix_Inverse.f k l0 = some (r1, r2)) : Spec Tryd.prog HighIn 23 ([gridD .u8 l0].map T.d) (.tup [gridD .u8 r1, iD .i64 r2]) := by
  refine ⟨⟨_, Tryd.func23, by kernel_rfl, by kernel_rfl⟩, _, rfl, fun ok W vs hG hl hargs => ?_⟩
  match vs, hl, hargs with
  | [v0], _, hargs =>
    have g0 := hargs 0 _ _ rfl rfl
    obtain ⟨A0, c0, rfl, k0, C0, V0⟩ := at_grid g0
    refine (matrix_Inverse.calls k A0 c0 l0 r1 r2 W hG C0 k0 h).mono ?_
    rintro e W' ⟨x0, rfl, m0, hb⟩
    exact ⟨_, rfl, tup2 ((S_rep_grid m0).mono fun q hq _ => .inr hq) (Rep.val _ rfl), hb⟩
theorem sp25 {k : Nat} {l0 : List (List Int)} {l1 : List Int} {r1 : List Int} {r2 : Int} (h : matrix_Express.f k l0 l1 = some (r1, r2)) : Spec Tryd.prog HighIn 25 ([gridD .u8 l0, rowD .u8 l1].map T.d) (.tup [rowD .u8 r1, iD .i64 r2]) := by
  refine ⟨⟨_, Tryd.func25, by kernel_rfl, by kernel_rfl⟩, _, rfl, fun ok W vs hG hl hargs => ?_⟩
  match vs, hl, hargs with
  | [v0, v1], _, hargs =>
    have g0 := hargs 0 _ _ rfl rfl
    obtain ⟨A0, c0, rfl, k0, C0, V0⟩ := at_grid g0
    have g1 := hargs 1 _ _ rfl rfl
    obtain ⟨A1, c1, rfl, k1, C1⟩ := at_row g1
    refine (matrix_Express.calls k A0 c0 l0 A1 c1 l1 r1 r2 W hG C0 k0 C1 k1 h).mono ?_
    rintro e W' ⟨x0, rfl, m0, hb⟩
    exact ⟨_, rfl, tup2 ((R_rep_int m0).mono fun q hq _ => .inr hq) (Rep.val _ rfl), hb⟩
theorem sp28 {k : Nat} {l0 : List (List Int)} {l1 : List (List Int)} {r1 : List (List Int)} {r2 : Int} (h : matrix_Product.f k l0 l1 = some (r1, r2)) : Spec Tryd.prog HighIn 28 ([gridD .u8 l0, gridD .u8 l1].map T.d) (.tup [gridD .u8 r1, iD .i64 r2]) := by
  refine ⟨⟨_, Tryd.func28, by kernel_rfl, by kernel_rfl⟩, _, rfl, fun ok W vs hG hl hargs => ?_⟩
  match vs, hl, hargs with
  | [v0, v1], _, hargs =>
    have g0 := hargs 0 _ _ rfl rfl
    obtain ⟨A0, c0, rfl, k0, C0, V0⟩ := at_grid g0
    have g1 := hargs 1 _ _ rfl rfl
    obtain ⟨A1, c1, rfl, k1, C1, V1⟩ := at_grid g1
    refine (matrix_Product.calls k (fun q => ok q) A0 c0 l0 (fun q => ok q) A1 c1 l1 r1 r2 W hG V0 V1 h).mono ?_
    rintro e W' ⟨x0, rfl, m0, hb⟩
    exact ⟨_, rfl, tup2 ((N_rep_grid m0).mono fun q hq _ => by rcases hq with (hq | hq) | hq <;> first | exact .inl hq | exact .inr hq) (Rep.val _ rfl), hb⟩
theorem sp30 {l0 : List (List Int)} {r1 : Int} (h : quietusref05_Columns.f l0 = some (r1)) : Spec Tryd.prog HighIn 30 ([gridD .u8 l0].map T.d) (.d (iD .i64 r1)) := by
  refine ⟨⟨_, Tryd.func30, by kernel_rfl, by kernel_rfl⟩, _, rfl, fun ok W vs hG hl hargs => ?_⟩
  match vs, hl, hargs with
  | [v0], _, hargs =>
    have g0 := hargs 0 _ _ rfl rfl
    obtain ⟨A0, c0, rfl, k0, C0, V0⟩ := at_grid g0
    refine (quietusref05_Columns.calls A0 c0 l0 r1 W C0 k0 h).mono ?_
    rintro e W' ⟨rfl, hb⟩
    exact ⟨_, rfl, (Rep.val _ rfl), drawn_below hb⟩
theorem sp29 {k : Nat} {l0 : List (List Int)} {l1 : List (List Int)} {r1 : List (List Int)} {r2 : Int} (h : quietusref05_Product.f k l0 l1 = some (r1, r2)) : Spec Tryd.prog HighIn 29 ([gridD .u8 l0, gridD .u8 l1].map T.d) (.d (.agg [gridD .u8 r1, iD .i64 r2])) := by
  refine ⟨⟨_, Tryd.func29, by kernel_rfl, by kernel_rfl⟩, _, rfl, fun ok W vs hG hl hargs => ?_⟩
  match vs, hl, hargs with
  | [v0, v1], _, hargs =>
    have g0 := hargs 0 _ _ rfl rfl
    obtain ⟨A0, c0, rfl, k0, C0, V0⟩ := at_grid g0
    have g1 := hargs 1 _ _ rfl rfl
    obtain ⟨A1, c1, rfl, k1, C1, V1⟩ := at_grid g1
    refine (quietusref05_Product.calls k A0 c0 l0 A1 c1 l1 r1 r2 W C0 k0 C1 k1 h).mono ?_
    rintro e W' ⟨x0, rfl, m0, hb⟩
    exact ⟨_, rfl, agg2 (one_grid (S_rep_grid m0)) rfl ((S_rep_grid m0).mono fun q hq _ => .inr hq) (Rep.val _ rfl), hb⟩
end Go.Proofs.YtijebgceopddmaaDoor.Ax
end
section
set_option linter.unusedVariables false
set_option linter.unusedSimpArgs false
namespace Go.Proofs.YtijebgceopddmaaDoor.Ax
open Go.RowKit
section
variable {P : Program} {C : FuncId → List T → T → Prop} {N : Nat} {S : St} {Q : Exit → St → Prop} {x y z : Code}
theorem a_seq_region {i : Nat} {ops : Array Oper} (h : awpOps P C N ops ops.toList S (awp P C N y Q)) : awp P C N (.seq (.region i ops false) y) Q S := h
theorem a_seq_skip (h : awp P C N y Q S) : awp P C N (.seq .skip y) Q S := h
theorem a_seq_ret (h : Q .ret S) : awp P C N (.seq .ret y) Q S := h
theorem a_ret (h : Q .ret S) : awp P C N .ret Q S := h
theorem a_assoc (h : awp P C N (.seq x (.seq y z)) Q S) : awp P C N (.seq (.seq x y) z) Q S := by
  simp only [awp] at h ⊢
  refine Eq.mp ?_ h
  congr 1
  funext e S'
  cases e <;> rfl
theorem a_seq_true {c : Operand} (hc : S.eval c = .d (.val (.bool true))) (h : awp P C N (.seq x z) Q S) : awp P C N (.seq (.cond c x y) z) Q S := by
  simp only [awp, hc]
  exact ⟨fun _ => h, (fun e => nomatch e)⟩
theorem a_seq_false {c : Operand} (hc : S.eval c = .d (.val (.bool false))) (h : awp P C N (.seq y z) Q S) : awp P C N (.seq (.cond c x y) z) Q S := by
  simp only [awp, hc]
  exact ⟨(fun e => nomatch e), fun _ => h⟩
end
section
variable {P : Program} {C : FuncId → List T → T → Prop} {N : Nat} {ops : Array Oper} {S : St} {K : St → Prop} {rest : List Oper} {d : Nat} {ty : TypeId} {pos : String} {af : Array Edge}
theorem n_nil (h : K S) : awpOps P C N ops [] S K := h
theorem n_on {o : Oper} {j q : Nat} {want : Bool} (hg : o.guard = some (j, want)) (hj : (ops[j]?).bind (·.dst) = some q) (hq : q < N) (hb : S.f q = .d (.val (.bool want))) (h : awpOps P C N ops ({ o with guard := none } :: rest) S K) : awpOps P C N ops (o :: rest) S K := by
  unfold awpOps at h ⊢
  simp only [hg, hj, hb]
  exact ⟨hq, fun _ => h, fun e => absurd rfl e⟩
theorem n_off {o : Oper} {j q : Nat} {want b : Bool} (hg : o.guard = some (j, want)) (hj : (ops[j]?).bind (·.dst) = some q) (hq : q < N) (hb : S.f q = .d (.val (.bool b))) (hne : b ≠ want) (hdst : o.dst = some d) (hd : d < N) (h : awpOps P C N ops rest (S.put d (.d .any)) K) : awpOps P C N ops (o :: rest) S K := by
  unfold awpOps
  simp only [hg, hj, hb]
  rw [hdst]
  exact ⟨hq, fun e => absurd e hne, fun _ => ⟨hd, h⟩⟩
theorem n_move {x : Operand} (hd : d < N) {v : T} (hx : S.eval x = v) (h : awpOps P C N ops rest (S.put d v) K) : awpOps P C N ops ({ dst := some d, op := .move x, type := ty, pos := pos, after := af, guard := none } :: rest) S K := by
  subst hx; exact ⟨hd, h⟩
theorem n_assign {x : Operand} (hd : d < N) {v : T} (hx : S.eval x = v) (h : awpOps P C N ops rest (S.put d v) K) : awpOps P C N ops ({ dst := some d, op := .assign x, type := ty, pos := pos, after := af, guard := none } :: rest) S K := by
  subst hx; exact ⟨hd, h⟩
theorem n_pick {c x y : Operand} (hd : d < N) {b : Bool} (hc : S.eval c = .d (.val (.bool b))) {v : T} (hx : (if b then S.eval x else S.eval y) = v) (h : awpOps P C N ops rest (S.put d v) K) : awpOps P C N ops ({ dst := some d, op := .pick c x y, type := ty, pos := pos, after := af, guard := none } :: rest) S K := by
  subst hx
  simp only [awpOps, awpOp, hc]
  exact ⟨hd, h⟩
theorem n_extract {x : Operand} {i : Nat} (hd : d < N) {ts : List D} {t : D} (hx : S.eval x = .tup ts) (hi : ts[i]? = some t) (h : awpOps P C N ops rest (S.put d (.d t)) K) : awpOps P C N ops ({ dst := some d, op := .extract x i, type := ty, pos := pos, after := af, guard := none } :: rest) S K := by
  simp only [awpOps, awpOp, hx, hi]
  exact ⟨hd, h⟩
theorem n_int {op : BinOp} {t yt : TypeId} {x y : Operand} (hd : d < N) {k : IntKind} {m n : Int} {v : Value} (hx : S.eval x = .d (.val (.int k m))) (hy : S.eval y = .d (.val (.int k n))) (hv : intOp op k m n = some v) (h : awpOps P C N ops rest (S.put d (.d (.val v))) K) : awpOps P C N ops ({ dst := some d, op := .binOp op t x y yt, type := ty, pos := pos, after := af, guard := none } :: rest) S K := by
  simp only [awpOps, awpOp, hx, hy]
  exact ⟨trivial, v, hv, hd, h⟩
theorem n_not {t : TypeId} {x : Operand} (hd : d < N) {b : Bool} (hx : S.eval x = .d (.val (.bool b))) (h : awpOps P C N ops rest (S.put d (.d (.val (.bool !b)))) K) : awpOps P C N ops ({ dst := some d, op := .unOp .not t x, type := ty, pos := pos, after := af, guard := none } :: rest) S K := by
  simp only [awpOps, awpOp, hx]
  exact ⟨hd, h⟩
theorem n_build {t : TypeId} {n : Nat} {ps : Array (Nat × Operand)} (hd : d < N) {e : TypeId} {sz : Nat} {xs : List D} (he : elemT P t = some e) (hz : (zeroOf P e).isSome = true) (hs : szOf P e = sz) (h0 : 0 < sz) (hi : ps.toList.map (·.1) = List.range n) (hn : n * sz ≤ 16777216) (hxs : (ps.toList.map fun p => toD (S.eval p.2)) = xs) (hall : (xs.all fun x => x.known && x.cells.length == sz) = true)
    (h : awpOps P C N ops rest (S.put d (.d (.sl true xs))) K) : awpOps P C N ops ({ dst := some d, op := .buildSlice t n ps, type := ty, pos := pos, after := af, guard := none } :: rest) S K := by
  subst hs hxs
  simp only [awpOps, awpOp, he]
  exact ⟨hz, h0, hi, hn, hall, hd, h⟩
theorem n_make {t : TypeId} {l c : Operand} (hd : d < N) {e : TypeId} {sz by_ : Nat} {z : Value} {n : Int} (hl : S.eval l = .d (.val (.int .i64 n))) (hc : S.eval c = .d (.val (.int .i64 n))) (he : elemT P t = some e) (hz : zeroOf P e = some z) (hs : szOf P e = sz) (hb : bytesOf P e = by_) (h0 : 0 < sz) (h1 : z.cells.size = sz) (h2 : (ofV z).known = true) (h3 : (ofV z).cells.length = sz) (h4 : 0 ≤ n) (h5 : n ≤ 9223372036854775807) (h6 : by_ * n ≤ 140737488355328)
    (h : awpOps P C N ops rest (S.put d (.d (.sl true (List.replicate n.toNat (ofV z))))) K) : awpOps P C N ops ({ dst := some d, op := .makeSlice t l c, type := ty, pos := pos, after := af, guard := none } :: rest) S K := by
  subst hs hb
  simp only [awpOps, awpOp, he, hl, hc]
  exact ⟨trivial, z, hz, h0, h1, h2, h3, h4, h5, h6, hd, h⟩
theorem n_len {as_ : Array Operand} {ts : Array TypeId} (hd : d < N) {t : TypeId} {x : Operand} {ex : Bool} {xs : List D} (ht : ts[0]? = some t) (hx : as_[0]? = some x) (hv : S.eval x = .d (.sl ex xs)) (he : (elemT P t).isSome = true) {n : Nat} (hn : xs.length = n) (h : (n : Int) ≤ 9223372036854775807 → awpOps P C N ops rest (S.put d (.d (.val (.int .i64 n)))) K) : awpOps P C N ops ({ dst := some d, op := .call { callee := .builtin .len, args := as_, argTypes := ts }, type := ty, pos := pos, after := af, guard := none } :: rest) S K := by
  subst hn
  simp only [awpOps, awpOp, awpBuiltin, ht, hx, Option.map_some, hv]
  exact ⟨he, fun hle => ⟨hd, h hle⟩⟩
theorem n_alloc {t : TypeId} (hd : d < N) {z : Value} {cs : List D} (hz : zeroOf P t = some z) (h1 : (z.cells.all (·.oneCell')) = true) (hcs : z.cells.toList.map ofV1 = cs) (h : awpOps P C N ops rest (St.put { S with b := S.b ++ [(t, cs)] } d (.ptr S.b.length 0)) K) : awpOps P C N ops ({ dst := some d, op := .alloc t, type := ty, pos := pos, after := af, guard := none } :: rest) S K := by
  subst hcs
  simp only [awpOps, awpOp, hz]
  exact ⟨h1, hd, h⟩
theorem n_store {t : TypeId} {p x : Operand} {dst : Option Nat} (hd : dstOk N dst) {i off sz : Nat} {e : TypeId} {cs : List D} {y : D} (hp : S.eval p = .ptr i off) (hx : S.eval x = .d y) (hb : S.b[i]? = some (e, cs)) (hk : y.known = true) (hs : szOf P t = sz) (h0 : 0 < sz) (hl : y.cells.length = sz) (hle : off + sz ≤ cs.length) (h : awpOps P C N ops rest (St.putO { S with b := S.b.set i (e, over cs off y.cells) } dst (.d .any)) K) : awpOps P C N ops ({ dst := dst, op := .store t p x, type := ty, pos := pos, after := af, guard := none } :: rest) S K := by
  subst hs
  simp only [awpOps, awpOp, hp, hx]
  exact ⟨e, cs, hb, hk, hl, h0, by omega, hd, h⟩
theorem n_field {t : TypeId} {x : Operand} {f : Nat} (hd : d < N) {q i off : Nat} {ft : TypeId} (hf : offT P t f = some (q, ft)) (hx : S.eval x = .ptr i off) (h : awpOps P C N ops rest (S.put d (.ptr i (off + q))) K) : awpOps P C N ops ({ dst := some d, op := .fieldAddr t x f, type := ty, pos := pos, after := af, guard := none } :: rest) S K := by
  simp only [awpOps, awpOp, hf, hx]
  exact ⟨hd, h⟩
theorem n_loadVar {t : TypeId} {p : Operand} (hd : d < N) {i off : Nat} {e : TypeId} {cs : List D} {y : D} (ht : rowT P t = some false) (hp : S.eval p = .ptr i off) (hb : S.b[i]? = some (e, cs)) (hy : cs[off]? = some y) (h : awpOps P C N ops rest (S.put d (.d y)) K) : awpOps P C N ops ({ dst := some d, op := .load t p, type := ty, pos := pos, after := af, guard := none } :: rest) S K := by
  simp only [awpOps, awpOp, awpLoad, ht, hp]
  exact ⟨e, cs, y, hb, hy, hd, h⟩
end
section
variable {P : Program} {Γ : World → Prop} {N : Nat} {ops : Array Oper} {S : St} {K : St → Prop} {rest : List Oper} {d : Nat} {ty : TypeId} {pos : String} {af : Array Edge} {f : FuncId} {ts : Array TypeId} {r : T}
theorem n_call0 (hd : d < N) (hC : Spec P Γ f ([].map T.d) r) (h : awpOps P (Spec P Γ) N ops rest (S.put d r) K) : awpOps P (Spec P Γ) N ops ({ dst := some d, op := .call { callee := .value (.func f), args := #[], argTypes := ts }, type := ty, pos := pos, after := af, guard := none } :: rest) S K := by
  simp only [awpOps, awpOp]
  exact ⟨r, hC, hd, h⟩
theorem n_call1 {a1 : Operand} {d1 : D} (hd : d < N) (h1 : S.eval a1 = .d d1) (hC : Spec P Γ f ([d1].map T.d) r) (h : awpOps P (Spec P Γ) N ops rest (S.put d r) K) : awpOps P (Spec P Γ) N ops ({ dst := some d, op := .call { callee := .value (.func f), args := #[a1], argTypes := ts }, type := ty, pos := pos, after := af, guard := none } :: rest) S K := by
  simp only [awpOps, awpOp]
  exact ⟨r, by simpa [h1] using hC, hd, h⟩
theorem n_call2 {a1 a2 : Operand} {d1 d2 : D} (hd : d < N) (h1 : S.eval a1 = .d d1) (h2 : S.eval a2 = .d d2) (hC : Spec P Γ f ([d1, d2].map T.d) r) (h : awpOps P (Spec P Γ) N ops rest (S.put d r) K) : awpOps P (Spec P Γ) N ops ({ dst := some d, op := .call { callee := .value (.func f), args := #[a1, a2], argTypes := ts }, type := ty, pos := pos, after := af, guard := none } :: rest) S K := by
  simp only [awpOps, awpOp]
  exact ⟨r, by simpa [h1, h2] using hC, hd, h⟩
end
end Go.Proofs.YtijebgceopddmaaDoor.Ax
end
section
set_option linter.unusedVariables false
namespace Go.Proofs.YtijebgceopddmaaDoor.Ax
theorem ty_b43 : bytesOf Tryd.prog 43 = 24 := by kernel_rfl
theorem ty_e22 : elemT Tryd.prog 22 = some 43 := by kernel_rfl
theorem ty_e29 : elemT Tryd.prog 29 = some 3 := by kernel_rfl
theorem ty_e43 : elemT Tryd.prog 43 = some 5 := by kernel_rfl
theorem ty_ei43 : (elemT Tryd.prog 43).isSome = true := by kernel_rfl
theorem ty_f35_0 : offT Tryd.prog 35 0 = some (0, 22) := by kernel_rfl
theorem ty_f35_1 : offT Tryd.prog 35 1 = some (1, 25) := by kernel_rfl
theorem ty_r22 : rowT Tryd.prog 22 = some false := by kernel_rfl
theorem ty_r25 : rowT Tryd.prog 25 = some false := by kernel_rfl
theorem ty_s3 : szOf Tryd.prog 3 = 1 := by kernel_rfl
theorem ty_s35 : szOf Tryd.prog 35 = 2 := by kernel_rfl
theorem ty_s43 : szOf Tryd.prog 43 = 1 := by kernel_rfl
theorem ty_s5 : szOf Tryd.prog 5 = 1 := by kernel_rfl
theorem ty_z35 : zeroOf Tryd.prog 35 = some (.agg #[.slice none 0 0, .int .i64 0]) := by kernel_rfl
theorem ty_z43 : zeroOf Tryd.prog 43 = some (.slice none 0 0) := by kernel_rfl
theorem ty_zs3 : (zeroOf Tryd.prog 3).isSome = true := by kernel_rfl
theorem ty_zs43 : (zeroOf Tryd.prog 43).isSome = true := by kernel_rfl
theorem ty_zs5 : (zeroOf Tryd.prog 5).isSome = true := by kernel_rfl
end Go.Proofs.YtijebgceopddmaaDoor.Ax
end
section
set_option linter.unusedVariables false
set_option maxRecDepth 100000
namespace Go.Proofs.YtijebgceopddmaaDoor.Ax
open Go.RowKit Go.Proofs.YtijebgceopddmaaDoorW.PrintWords Go.Proofs.YtijebgceopddmaaDoor.Gf Go.Proofs.YtijebgceopddmaaDoor.Pa
theorem ev_0 : matrix_Product.f 400 [[1, 2]] [[3], [4]] = some ([[11]], 0) := by kernel_rfl
theorem ev_1 : matrix_Reduce.f 400 [[0, 2, 4], [0, 1, 2], [1, 0, 1]] = some ([[1, 0, 1], [0, 1, 2]], [0, 1], 0) := by kernel_rfl
theorem ev_2 : matrix_Solve.f 400 [[1, 0, 1], [0, 1, 2]] [5, 6] = some ([5, 6, 0], [[1, 2, 1]], 0) := by kernel_rfl
theorem ev_3 : matrix_Solve.f 400 [[1, 1], [1, 1]] [1, 2] = some ([], [], 8) := by kernel_rfl
theorem ev_4 : matrix_Inverse.f 400 [[1, 1], [0, 1]] = some ([[1, 1], [0, 1]], 0) := by kernel_rfl
theorem ev_5 : matrix_Inverse.f 400 [[1, 1], [1, 1]] = some ([], 8) := by kernel_rfl
theorem ev_6 : matrix_Express.f 400 [[1, 1, 0], [1, 1, 0], [0, 1, 1]] [1, 0, 1] = some ([1, 0, 1], 0) := by kernel_rfl
theorem ev_7 : matrix_Express.f 400 [] [0, 0] = some ([], 0) := by kernel_rfl
theorem ev_8 : matrix_Express.f 400 [] [0, 1] = some ([], 8) := by kernel_rfl
theorem ev_9 : matrix_Transpose.f 400 [[1, 2, 3]] = some ([[1], [2], [3]], 0) := by kernel_rfl
theorem ev_10 : matrix_Rank.f 400 [[1, 2], [2, 4], [0, 0]] = some (1, 0) := by kernel_rfl
theorem ev_11 : matrix_Check.f 400 [[1], []] = some 1 := by kernel_rfl
theorem ev_12 : matrix_Check.f 400 (List.replicate 49 []) = some 2 := by kernel_rfl
theorem ev_13 : quietusref05_Same.f 400 [[11]] [[11]] = some true := by kernel_rfl
theorem ev_14 : quietusref05_Same.f 400 [[1, 0, 1], [0, 1, 2]] [[1, 0, 1], [0, 1, 2]] = some true := by kernel_rfl
theorem ev_15 : quietusref05_SameList.f 400 [0, 1] [0, 1] = some true := by kernel_rfl
theorem ev_16 : quietusref05_SameRow.f 400 [5, 6, 0] [5, 6, 0] = some true := by kernel_rfl
theorem ev_17 : quietusref05_Same.f 400 [[1, 2, 1]] [[1, 2, 1]] = some true := by kernel_rfl
theorem ev_18 : quietusref05_Same.f 400 [[1, 1], [0, 1]] [[1, 1], [0, 1]] = some true := by kernel_rfl
theorem ev_19 : quietusref05_SameRow.f 400 [1, 0, 1] [1, 0, 1] = some true := by kernel_rfl
theorem ev_20 : quietusref05_Same.f 400 [[1], [2], [3]] [[1], [2], [3]] = some true := by kernel_rfl
set_option maxHeartbeats 4000000 in
theorem sp11 : Spec Tryd.prog HighIn 11 ([].map T.d) (.d (.val (.bool true))) := by
  refine spec_of Tryd.func11 rfl (by kernel_rfl) gamOk (fun _ _ _ h => h) [] (by decide) _ rfl ?_
  show awp _ _ 229 _ _ _
  refine a_seq_region ?_
  refine n_assign (by decide) (v := .d (.val (.bool false))) rfl ?_
  refine n_nil ?_
  refine a_seq_region ?_
  refine n_build (by decide) (xs := [.val (.int .u8 1), .val (.int .u8 2)]) ty_e43 ty_zs5 ty_s5 (by decide) rfl (by decide) rfl (by first | rfl | simp [D.known, D.cells]) ?_
  refine n_build (by decide) (xs := [.sl true [.val (.int .u8 1), .val (.int .u8 2)]]) ty_e22 ty_zs43 ty_s43 (by decide) rfl (by decide) rfl (by first | rfl | simp [D.known, D.cells]) ?_
  refine n_build (by decide) (xs := [.val (.int .u8 3)]) ty_e43 ty_zs5 ty_s5 (by decide) rfl (by decide) rfl (by first | rfl | simp [D.known, D.cells]) ?_
  refine n_build (by decide) (xs := [.val (.int .u8 4)]) ty_e43 ty_zs5 ty_s5 (by decide) rfl (by decide) rfl (by first | rfl | simp [D.known, D.cells]) ?_
  refine n_build (by decide) (xs := [.sl true [.val (.int .u8 3)], .sl true [.val (.int .u8 4)]]) ty_e22 ty_zs43 ty_s43 (by decide) rfl (by decide) rfl (by first | rfl | simp [D.known, D.cells]) ?_
  refine n_call2 (by decide) rfl rfl (r := .tup [(gridD .u8 [[11]]), .val (.int .i64 0)]) (spec_er (es := [gridD .u8 [[1, 2]], gridD .u8 [[3], [4]]]) (by simp [er_sl, er_val, er_nilV, er_gridD, er_rowD, gridD, rowD, iD]) (sp28 ev_0)) ?_
  refine n_move (by decide) (v := .tup [(gridD .u8 [[11]]), .val (.int .i64 0)]) rfl ?_
  refine n_extract (by decide) (t := (gridD .u8 [[11]])) rfl rfl ?_
  refine n_extract (by decide) (t := .val (.int .i64 0)) rfl rfl ?_
  refine n_assign (by decide) (v := .d ((gridD .u8 [[11]]))) rfl ?_
  refine n_assign (by decide) (v := .d (.val (.int .i64 0))) rfl ?_
  refine n_nil ?_
  refine a_seq_region ?_
  refine n_build (by decide) (xs := [.val (.int .u8 0), .val (.int .u8 2), .val (.int .u8 4)]) ty_e43 ty_zs5 ty_s5 (by decide) rfl (by decide) rfl (by first | rfl | simp [D.known, D.cells]) ?_
  refine n_build (by decide) (xs := [.val (.int .u8 0), .val (.int .u8 1), .val (.int .u8 2)]) ty_e43 ty_zs5 ty_s5 (by decide) rfl (by decide) rfl (by first | rfl | simp [D.known, D.cells]) ?_
  refine n_build (by decide) (xs := [.val (.int .u8 1), .val (.int .u8 0), .val (.int .u8 1)]) ty_e43 ty_zs5 ty_s5 (by decide) rfl (by decide) rfl (by first | rfl | simp [D.known, D.cells]) ?_
  refine n_build (by decide) (xs := [.sl true [.val (.int .u8 0), .val (.int .u8 2), .val (.int .u8 4)], .sl true [.val (.int .u8 0), .val (.int .u8 1), .val (.int .u8 2)], .sl true [.val (.int .u8 1), .val (.int .u8 0), .val (.int .u8 1)]]) ty_e22 ty_zs43 ty_s43 (by decide) rfl (by decide) rfl (by first | rfl | simp [D.known, D.cells]) ?_
  refine n_call1 (by decide) rfl (r := .tup [(gridD .u8 [[1, 0, 1], [0, 1, 2]]), (rowD .i64 [0, 1]), .val (.int .i64 0)]) (spec_er (es := [gridD .u8 [[0, 2, 4], [0, 1, 2], [1, 0, 1]]]) (by simp [er_sl, er_val, er_nilV, er_gridD, er_rowD, gridD, rowD, iD]) (sp14 ev_1)) ?_
  refine n_move (by decide) (v := .tup [(gridD .u8 [[1, 0, 1], [0, 1, 2]]), (rowD .i64 [0, 1]), .val (.int .i64 0)]) rfl ?_
  refine n_extract (by decide) (t := (gridD .u8 [[1, 0, 1], [0, 1, 2]])) rfl rfl ?_
  refine n_extract (by decide) (t := (rowD .i64 [0, 1])) rfl rfl ?_
  refine n_extract (by decide) (t := .val (.int .i64 0)) rfl rfl ?_
  refine n_assign (by decide) (v := .d ((gridD .u8 [[1, 0, 1], [0, 1, 2]]))) rfl ?_
  refine n_assign (by decide) (v := .d ((rowD .i64 [0, 1]))) rfl ?_
  refine n_assign (by decide) (v := .d (.val (.int .i64 0))) rfl ?_
  refine n_nil ?_
  refine a_seq_region ?_
  refine n_build (by decide) (xs := [.val (.int .u8 1), .val (.int .u8 0), .val (.int .u8 1)]) ty_e43 ty_zs5 ty_s5 (by decide) rfl (by decide) rfl (by first | rfl | simp [D.known, D.cells]) ?_
  refine n_build (by decide) (xs := [.val (.int .u8 0), .val (.int .u8 1), .val (.int .u8 2)]) ty_e43 ty_zs5 ty_s5 (by decide) rfl (by decide) rfl (by first | rfl | simp [D.known, D.cells]) ?_
  refine n_build (by decide) (xs := [.sl true [.val (.int .u8 1), .val (.int .u8 0), .val (.int .u8 1)], .sl true [.val (.int .u8 0), .val (.int .u8 1), .val (.int .u8 2)]]) ty_e22 ty_zs43 ty_s43 (by decide) rfl (by decide) rfl (by first | rfl | simp [D.known, D.cells]) ?_
  refine n_build (by decide) (xs := [.val (.int .u8 5), .val (.int .u8 6)]) ty_e43 ty_zs5 ty_s5 (by decide) rfl (by decide) rfl (by first | rfl | simp [D.known, D.cells]) ?_
  refine n_call2 (by decide) rfl rfl (r := .tup [(rowD .u8 [5, 6, 0]), (gridD .u8 [[1, 2, 1]]), .val (.int .i64 0)]) (spec_er (es := [gridD .u8 [[1, 0, 1], [0, 1, 2]], rowD .u8 [5, 6]]) (by simp [er_sl, er_val, er_nilV, er_gridD, er_rowD, gridD, rowD, iD]) (sp21 ev_2)) ?_
  refine n_move (by decide) (v := .tup [(rowD .u8 [5, 6, 0]), (gridD .u8 [[1, 2, 1]]), .val (.int .i64 0)]) rfl ?_
  refine n_extract (by decide) (t := (rowD .u8 [5, 6, 0])) rfl rfl ?_
  refine n_extract (by decide) (t := (gridD .u8 [[1, 2, 1]])) rfl rfl ?_
  refine n_extract (by decide) (t := .val (.int .i64 0)) rfl rfl ?_
  refine n_assign (by decide) (v := .d ((rowD .u8 [5, 6, 0]))) rfl ?_
  refine n_assign (by decide) (v := .d ((gridD .u8 [[1, 2, 1]]))) rfl ?_
  refine n_assign (by decide) (v := .d (.val (.int .i64 0))) rfl ?_
  refine n_nil ?_
  refine a_seq_region ?_
  refine n_build (by decide) (xs := [.val (.int .u8 1), .val (.int .u8 1)]) ty_e43 ty_zs5 ty_s5 (by decide) rfl (by decide) rfl (by first | rfl | simp [D.known, D.cells]) ?_
  refine n_build (by decide) (xs := [.val (.int .u8 1), .val (.int .u8 1)]) ty_e43 ty_zs5 ty_s5 (by decide) rfl (by decide) rfl (by first | rfl | simp [D.known, D.cells]) ?_
  refine n_build (by decide) (xs := [.sl true [.val (.int .u8 1), .val (.int .u8 1)], .sl true [.val (.int .u8 1), .val (.int .u8 1)]]) ty_e22 ty_zs43 ty_s43 (by decide) rfl (by decide) rfl (by first | rfl | simp [D.known, D.cells]) ?_
  refine n_build (by decide) (xs := [.val (.int .u8 1), .val (.int .u8 2)]) ty_e43 ty_zs5 ty_s5 (by decide) rfl (by decide) rfl (by first | rfl | simp [D.known, D.cells]) ?_
  refine n_call2 (by decide) rfl rfl (r := .tup [(rowD .u8 []), (gridD .u8 []), .val (.int .i64 8)]) (spec_er (es := [gridD .u8 [[1, 1], [1, 1]], rowD .u8 [1, 2]]) (by simp [er_sl, er_val, er_nilV, er_gridD, er_rowD, gridD, rowD, iD]) (sp21 ev_3)) ?_
  refine n_move (by decide) (v := .tup [(rowD .u8 []), (gridD .u8 []), .val (.int .i64 8)]) rfl ?_
  refine n_extract (by decide) (t := (rowD .u8 [])) rfl rfl ?_
  refine n_extract (by decide) (t := (gridD .u8 [])) rfl rfl ?_
  refine n_extract (by decide) (t := .val (.int .i64 8)) rfl rfl ?_
  refine n_assign (by decide) (v := .d ((rowD .u8 []))) rfl ?_
  refine n_assign (by decide) (v := .d ((gridD .u8 []))) rfl ?_
  refine n_assign (by decide) (v := .d (.val (.int .i64 8))) rfl ?_
  refine n_nil ?_
  refine a_seq_region ?_
  refine n_build (by decide) (xs := [.val (.int .u8 1), .val (.int .u8 1)]) ty_e43 ty_zs5 ty_s5 (by decide) rfl (by decide) rfl (by first | rfl | simp [D.known, D.cells]) ?_
  refine n_build (by decide) (xs := [.val (.int .u8 0), .val (.int .u8 1)]) ty_e43 ty_zs5 ty_s5 (by decide) rfl (by decide) rfl (by first | rfl | simp [D.known, D.cells]) ?_
  refine n_build (by decide) (xs := [.sl true [.val (.int .u8 1), .val (.int .u8 1)], .sl true [.val (.int .u8 0), .val (.int .u8 1)]]) ty_e22 ty_zs43 ty_s43 (by decide) rfl (by decide) rfl (by first | rfl | simp [D.known, D.cells]) ?_
  refine n_call1 (by decide) rfl (r := .tup [(gridD .u8 [[1, 1], [0, 1]]), .val (.int .i64 0)]) (spec_er (es := [gridD .u8 [[1, 1], [0, 1]]]) (by simp [er_sl, er_val, er_nilV, er_gridD, er_rowD, gridD, rowD, iD]) (sp23 ev_4)) ?_
  refine n_move (by decide) (v := .tup [(gridD .u8 [[1, 1], [0, 1]]), .val (.int .i64 0)]) rfl ?_
  refine n_extract (by decide) (t := (gridD .u8 [[1, 1], [0, 1]])) rfl rfl ?_
  refine n_extract (by decide) (t := .val (.int .i64 0)) rfl rfl ?_
  refine n_assign (by decide) (v := .d ((gridD .u8 [[1, 1], [0, 1]]))) rfl ?_
  refine n_assign (by decide) (v := .d (.val (.int .i64 0))) rfl ?_
  refine n_nil ?_
  refine a_seq_region ?_
  refine n_build (by decide) (xs := [.val (.int .u8 1), .val (.int .u8 1)]) ty_e43 ty_zs5 ty_s5 (by decide) rfl (by decide) rfl (by first | rfl | simp [D.known, D.cells]) ?_
  refine n_build (by decide) (xs := [.val (.int .u8 1), .val (.int .u8 1)]) ty_e43 ty_zs5 ty_s5 (by decide) rfl (by decide) rfl (by first | rfl | simp [D.known, D.cells]) ?_
  refine n_build (by decide) (xs := [.sl true [.val (.int .u8 1), .val (.int .u8 1)], .sl true [.val (.int .u8 1), .val (.int .u8 1)]]) ty_e22 ty_zs43 ty_s43 (by decide) rfl (by decide) rfl (by first | rfl | simp [D.known, D.cells]) ?_
  refine n_call1 (by decide) rfl (r := .tup [(gridD .u8 []), .val (.int .i64 8)]) (spec_er (es := [gridD .u8 [[1, 1], [1, 1]]]) (by simp [er_sl, er_val, er_nilV, er_gridD, er_rowD, gridD, rowD, iD]) (sp23 ev_5)) ?_
  refine n_move (by decide) (v := .tup [(gridD .u8 []), .val (.int .i64 8)]) rfl ?_
  refine n_extract (by decide) (t := (gridD .u8 [])) rfl rfl ?_
  refine n_extract (by decide) (t := .val (.int .i64 8)) rfl rfl ?_
  refine n_assign (by decide) (v := .d ((gridD .u8 []))) rfl ?_
  refine n_assign (by decide) (v := .d (.val (.int .i64 8))) rfl ?_
  refine n_nil ?_
  refine a_seq_region ?_
  refine n_build (by decide) (xs := [.val (.int .u8 1), .val (.int .u8 1), .val (.int .u8 0)]) ty_e43 ty_zs5 ty_s5 (by decide) rfl (by decide) rfl (by first | rfl | simp [D.known, D.cells]) ?_
  refine n_build (by decide) (xs := [.val (.int .u8 1), .val (.int .u8 1), .val (.int .u8 0)]) ty_e43 ty_zs5 ty_s5 (by decide) rfl (by decide) rfl (by first | rfl | simp [D.known, D.cells]) ?_
  refine n_build (by decide) (xs := [.val (.int .u8 0), .val (.int .u8 1), .val (.int .u8 1)]) ty_e43 ty_zs5 ty_s5 (by decide) rfl (by decide) rfl (by first | rfl | simp [D.known, D.cells]) ?_
  refine n_build (by decide) (xs := [.sl true [.val (.int .u8 1), .val (.int .u8 1), .val (.int .u8 0)], .sl true [.val (.int .u8 1), .val (.int .u8 1), .val (.int .u8 0)], .sl true [.val (.int .u8 0), .val (.int .u8 1), .val (.int .u8 1)]]) ty_e22 ty_zs43 ty_s43 (by decide) rfl (by decide) rfl (by first | rfl | simp [D.known, D.cells]) ?_
  refine n_build (by decide) (xs := [.val (.int .u8 1), .val (.int .u8 0), .val (.int .u8 1)]) ty_e43 ty_zs5 ty_s5 (by decide) rfl (by decide) rfl (by first | rfl | simp [D.known, D.cells]) ?_
  refine n_call2 (by decide) rfl rfl (r := .tup [(rowD .u8 [1, 0, 1]), .val (.int .i64 0)]) (spec_er (es := [gridD .u8 [[1, 1, 0], [1, 1, 0], [0, 1, 1]], rowD .u8 [1, 0, 1]]) (by simp [er_sl, er_val, er_nilV, er_gridD, er_rowD, gridD, rowD, iD]) (sp25 ev_6)) ?_
  refine n_move (by decide) (v := .tup [(rowD .u8 [1, 0, 1]), .val (.int .i64 0)]) rfl ?_
  refine n_extract (by decide) (t := (rowD .u8 [1, 0, 1])) rfl rfl ?_
  refine n_extract (by decide) (t := .val (.int .i64 0)) rfl rfl ?_
  refine n_assign (by decide) (v := .d ((rowD .u8 [1, 0, 1]))) rfl ?_
  refine n_assign (by decide) (v := .d (.val (.int .i64 0))) rfl ?_
  refine n_nil ?_
  refine a_seq_region ?_
  refine n_build (by decide) (xs := [.val (.int .u8 0), .val (.int .u8 0)]) ty_e43 ty_zs5 ty_s5 (by decide) rfl (by decide) rfl (by first | rfl | simp [D.known, D.cells]) ?_
  refine n_call2 (by decide) rfl rfl (r := .tup [(rowD .u8 []), .val (.int .i64 0)]) (spec_er (es := [gridD .u8 [], rowD .u8 [0, 0]]) (by simp [er_sl, er_val, er_nilV, er_gridD, er_rowD, gridD, rowD, iD]) (sp25 ev_7)) ?_
  refine n_move (by decide) (v := .tup [(rowD .u8 []), .val (.int .i64 0)]) rfl ?_
  refine n_extract (by decide) (t := (rowD .u8 [])) rfl rfl ?_
  refine n_extract (by decide) (t := .val (.int .i64 0)) rfl rfl ?_
  refine n_assign (by decide) (v := .d ((rowD .u8 []))) rfl ?_
  refine n_assign (by decide) (v := .d (.val (.int .i64 0))) rfl ?_
  refine n_nil ?_
  refine a_seq_region ?_
  refine n_build (by decide) (xs := [.val (.int .u8 0), .val (.int .u8 1)]) ty_e43 ty_zs5 ty_s5 (by decide) rfl (by decide) rfl (by first | rfl | simp [D.known, D.cells]) ?_
  refine n_call2 (by decide) rfl rfl (r := .tup [(rowD .u8 []), .val (.int .i64 8)]) (spec_er (es := [gridD .u8 [], rowD .u8 [0, 1]]) (by simp [er_sl, er_val, er_nilV, er_gridD, er_rowD, gridD, rowD, iD]) (sp25 ev_8)) ?_
  refine n_move (by decide) (v := .tup [(rowD .u8 []), .val (.int .i64 8)]) rfl ?_
  refine n_extract (by decide) (t := (rowD .u8 [])) rfl rfl ?_
  refine n_extract (by decide) (t := .val (.int .i64 8)) rfl rfl ?_
  refine n_assign (by decide) (v := .d ((rowD .u8 []))) rfl ?_
  refine n_assign (by decide) (v := .d (.val (.int .i64 8))) rfl ?_
  refine n_nil ?_
  refine a_seq_region ?_
  refine n_build (by decide) (xs := [.val (.int .u8 1), .val (.int .u8 2), .val (.int .u8 3)]) ty_e43 ty_zs5 ty_s5 (by decide) rfl (by decide) rfl (by first | rfl | simp [D.known, D.cells]) ?_
  refine n_build (by decide) (xs := [.sl true [.val (.int .u8 1), .val (.int .u8 2), .val (.int .u8 3)]]) ty_e22 ty_zs43 ty_s43 (by decide) rfl (by decide) rfl (by first | rfl | simp [D.known, D.cells]) ?_
  refine n_call1 (by decide) rfl (r := .tup [(gridD .u8 [[1], [2], [3]]), .val (.int .i64 0)]) (spec_er (es := [gridD .u8 [[1, 2, 3]]]) (by simp [er_sl, er_val, er_nilV, er_gridD, er_rowD, gridD, rowD, iD]) (sp13 ev_9)) ?_
  refine n_move (by decide) (v := .tup [(gridD .u8 [[1], [2], [3]]), .val (.int .i64 0)]) rfl ?_
  refine n_extract (by decide) (t := (gridD .u8 [[1], [2], [3]])) rfl rfl ?_
  refine n_extract (by decide) (t := .val (.int .i64 0)) rfl rfl ?_
  refine n_assign (by decide) (v := .d ((gridD .u8 [[1], [2], [3]]))) rfl ?_
  refine n_assign (by decide) (v := .d (.val (.int .i64 0))) rfl ?_
  refine n_nil ?_
  refine a_seq_region ?_
  refine n_build (by decide) (xs := [.val (.int .u8 1), .val (.int .u8 2)]) ty_e43 ty_zs5 ty_s5 (by decide) rfl (by decide) rfl (by first | rfl | simp [D.known, D.cells]) ?_
  refine n_build (by decide) (xs := [.val (.int .u8 2), .val (.int .u8 4)]) ty_e43 ty_zs5 ty_s5 (by decide) rfl (by decide) rfl (by first | rfl | simp [D.known, D.cells]) ?_
  refine n_build (by decide) (xs := [.val (.int .u8 0), .val (.int .u8 0)]) ty_e43 ty_zs5 ty_s5 (by decide) rfl (by decide) rfl (by first | rfl | simp [D.known, D.cells]) ?_
  refine n_build (by decide) (xs := [.sl true [.val (.int .u8 1), .val (.int .u8 2)], .sl true [.val (.int .u8 2), .val (.int .u8 4)], .sl true [.val (.int .u8 0), .val (.int .u8 0)]]) ty_e22 ty_zs43 ty_s43 (by decide) rfl (by decide) rfl (by first | rfl | simp [D.known, D.cells]) ?_
  refine n_call1 (by decide) rfl (r := .tup [.val (.int .i64 1), .val (.int .i64 0)]) (spec_er (es := [gridD .u8 [[1, 2], [2, 4], [0, 0]]]) (by simp [er_sl, er_val, er_nilV, er_gridD, er_rowD, gridD, rowD, iD]) (sp15 ev_10)) ?_
  refine n_move (by decide) (v := .tup [.val (.int .i64 1), .val (.int .i64 0)]) rfl ?_
  refine n_extract (by decide) (t := .val (.int .i64 1)) rfl rfl ?_
  refine n_extract (by decide) (t := .val (.int .i64 0)) rfl rfl ?_
  refine n_assign (by decide) (v := .d (.val (.int .i64 1))) rfl ?_
  refine n_assign (by decide) (v := .d (.val (.int .i64 0))) rfl ?_
  refine n_nil ?_
  refine a_seq_region ?_
  refine n_move (by decide) (v := .d (.val (.int .i64 0))) rfl ?_
  refine n_int (by decide) (v := (.bool true)) rfl rfl (by first | rfl | decide) ?_
  refine n_move (by decide) (v := .d (.val (.bool true))) rfl ?_
  refine n_on rfl rfl (by decide) rfl ?_
  refine n_move (by decide) (v := .d (.val (.int .i64 0))) rfl ?_
  refine n_on rfl rfl (by decide) rfl ?_
  refine n_int (by decide) (v := (.bool true)) rfl rfl (by first | rfl | decide) ?_
  refine n_pick (by decide) (b := true) rfl (v := .d (.val (.bool true))) rfl ?_
  refine n_move (by decide) (v := .d (.val (.bool true))) rfl ?_
  refine n_on rfl rfl (by decide) rfl ?_
  refine n_move (by decide) (v := .d (.val (.int .i64 0))) rfl ?_
  refine n_on rfl rfl (by decide) rfl ?_
  refine n_int (by decide) (v := (.bool true)) rfl rfl (by first | rfl | decide) ?_
  refine n_pick (by decide) (b := true) rfl (v := .d (.val (.bool true))) rfl ?_
  refine n_move (by decide) (v := .d (.val (.bool true))) rfl ?_
  refine n_on rfl rfl (by decide) rfl ?_
  refine n_move (by decide) (v := .d (.val (.int .i64 0))) rfl ?_
  refine n_on rfl rfl (by decide) rfl ?_
  refine n_int (by decide) (v := (.bool true)) rfl rfl (by first | rfl | decide) ?_
  refine n_pick (by decide) (b := true) rfl (v := .d (.val (.bool true))) rfl ?_
  refine n_move (by decide) (v := .d (.val (.bool true))) rfl ?_
  refine n_on rfl rfl (by decide) rfl ?_
  refine n_move (by decide) (v := .d (.val (.int .i64 0))) rfl ?_
  refine n_on rfl rfl (by decide) rfl ?_
  refine n_int (by decide) (v := (.bool true)) rfl rfl (by first | rfl | decide) ?_
  refine n_pick (by decide) (b := true) rfl (v := .d (.val (.bool true))) rfl ?_
  refine n_move (by decide) (v := .d (.val (.bool true))) rfl ?_
  refine n_on rfl rfl (by decide) rfl ?_
  refine n_move (by decide) (v := .d (.val (.int .i64 0))) rfl ?_
  refine n_on rfl rfl (by decide) rfl ?_
  refine n_int (by decide) (v := (.bool true)) rfl rfl (by first | rfl | decide) ?_
  refine n_pick (by decide) (b := true) rfl (v := .d (.val (.bool true))) rfl ?_
  refine n_move (by decide) (v := .d (.val (.bool true))) rfl ?_
  refine n_on rfl rfl (by decide) rfl ?_
  refine n_move (by decide) (v := .d (.val (.int .i64 0))) rfl ?_
  refine n_on rfl rfl (by decide) rfl ?_
  refine n_int (by decide) (v := (.bool true)) rfl rfl (by first | rfl | decide) ?_
  refine n_pick (by decide) (b := true) rfl (v := .d (.val (.bool true))) rfl ?_
  refine n_move (by decide) (v := .d (.val (.bool true))) rfl ?_
  refine n_on rfl rfl (by decide) rfl ?_
  refine n_move (by decide) (v := .d (.val (.int .i64 0))) rfl ?_
  refine n_on rfl rfl (by decide) rfl ?_
  refine n_int (by decide) (v := (.bool true)) rfl rfl (by first | rfl | decide) ?_
  refine n_pick (by decide) (b := true) rfl (v := .d (.val (.bool true))) rfl ?_
  refine n_assign (by decide) (v := .d (.val (.bool true))) rfl ?_
  refine n_nil ?_
  refine a_seq_region ?_
  refine n_move (by decide) (v := .d (.val (.int .i64 8))) rfl ?_
  refine n_int (by decide) (v := (.bool true)) rfl rfl (by first | rfl | decide) ?_
  refine n_move (by decide) (v := .d (.val (.bool true))) rfl ?_
  refine n_on rfl rfl (by decide) rfl ?_
  refine n_move (by decide) (v := .d (.val (.int .i64 8))) rfl ?_
  refine n_on rfl rfl (by decide) rfl ?_
  refine n_int (by decide) (v := (.bool true)) rfl rfl (by first | rfl | decide) ?_
  refine n_pick (by decide) (b := true) rfl (v := .d (.val (.bool true))) rfl ?_
  refine n_move (by decide) (v := .d (.val (.bool true))) rfl ?_
  refine n_on rfl rfl (by decide) rfl ?_
  refine n_move (by decide) (v := .d (.val (.int .i64 8))) rfl ?_
  refine n_on rfl rfl (by decide) rfl ?_
  refine n_int (by decide) (v := (.bool true)) rfl rfl (by first | rfl | decide) ?_
  refine n_pick (by decide) (b := true) rfl (v := .d (.val (.bool true))) rfl ?_
  refine n_move (by decide) (v := .d (.val (.bool true))) rfl ?_
  refine n_on rfl rfl (by decide) rfl ?_
  refine n_build (by decide) (xs := [.val (.int .u8 1)]) ty_e43 ty_zs5 ty_s5 (by decide) rfl (by decide) rfl (by first | rfl | simp [D.known, D.cells]) ?_
  refine n_on rfl rfl (by decide) rfl ?_
  refine n_build (by decide) (xs := []) ty_e43 ty_zs5 ty_s5 (by decide) rfl (by decide) rfl (by first | rfl | simp [D.known, D.cells]) ?_
  refine n_on rfl rfl (by decide) rfl ?_
  refine n_build (by decide) (xs := [.sl true [.val (.int .u8 1)], .sl true []]) ty_e22 ty_zs43 ty_s43 (by decide) rfl (by decide) rfl (by first | rfl | simp [D.known, D.cells]) ?_
  refine n_on rfl rfl (by decide) rfl ?_
  refine n_call1 (by decide) rfl (r := .d (.val (.int .i64 1))) (spec_er (es := [gridD .u8 [[1], []]]) (by simp [er_sl, er_val, er_nilV, er_gridD, er_rowD, gridD, rowD, iD]) (sp16 ev_11)) ?_
  refine n_on rfl rfl (by decide) rfl ?_
  refine n_int (by decide) (v := (.bool true)) rfl rfl (by first | rfl | decide) ?_
  refine n_pick (by decide) (b := true) rfl (v := .d (.val (.bool true))) rfl ?_
  refine n_move (by decide) (v := .d (.val (.bool true))) rfl ?_
  refine n_on rfl rfl (by decide) rfl ?_
  refine n_make (by decide) (n := 49) rfl rfl ty_e22 ty_z43 ty_s43 ty_b43 (by decide) (by decide) rfl rfl (by decide) (by decide) (by decide) ?_
  refine n_on rfl rfl (by decide) rfl ?_
  refine n_call1 (by decide) rfl (r := .d (.val (.int .i64 2))) (spec_er (es := [gridD .u8 (List.replicate 49 [])]) (by simp [er_sl, er_val, er_nilV, gridD, rowD, iD]) (sp16 ev_12)) ?_
  refine n_on rfl rfl (by decide) rfl ?_
  refine n_int (by decide) (v := (.bool true)) rfl rfl (by first | rfl | decide) ?_
  refine n_pick (by decide) (b := true) rfl (v := .d (.val (.bool true))) rfl ?_
  refine n_assign (by decide) (v := .d (.val (.bool true))) rfl ?_
  refine n_nil ?_
  refine a_seq_region ?_
  refine n_move (by decide) (v := .d ((gridD .u8 [[11]]))) rfl ?_
  refine n_build (by decide) (xs := [.val (.int .u8 11)]) ty_e43 ty_zs5 ty_s5 (by decide) rfl (by decide) rfl (by first | rfl | simp [D.known, D.cells]) ?_
  refine n_build (by decide) (xs := [.sl true [.val (.int .u8 11)]]) ty_e22 ty_zs43 ty_s43 (by decide) rfl (by decide) rfl (by first | rfl | simp [D.known, D.cells]) ?_
  refine n_call2 (by decide) rfl rfl (r := .d (.val (.bool true))) (spec_er (es := [gridD .u8 [[11]], gridD .u8 [[11]]]) (by simp [er_sl, er_val, er_nilV, er_gridD, er_rowD, gridD, rowD, iD]) (sp19 ev_13)) ?_
  refine n_move (by decide) (v := .d (.val (.bool true))) rfl ?_
  refine n_on rfl rfl (by decide) rfl ?_
  refine n_move (by decide) (v := .d ((gridD .u8 [[1, 0, 1], [0, 1, 2]]))) rfl ?_
  refine n_on rfl rfl (by decide) rfl ?_
  refine n_build (by decide) (xs := [.val (.int .u8 1), .val (.int .u8 0), .val (.int .u8 1)]) ty_e43 ty_zs5 ty_s5 (by decide) rfl (by decide) rfl (by first | rfl | simp [D.known, D.cells]) ?_
  refine n_on rfl rfl (by decide) rfl ?_
  refine n_build (by decide) (xs := [.val (.int .u8 0), .val (.int .u8 1), .val (.int .u8 2)]) ty_e43 ty_zs5 ty_s5 (by decide) rfl (by decide) rfl (by first | rfl | simp [D.known, D.cells]) ?_
  refine n_on rfl rfl (by decide) rfl ?_
  refine n_build (by decide) (xs := [.sl true [.val (.int .u8 1), .val (.int .u8 0), .val (.int .u8 1)], .sl true [.val (.int .u8 0), .val (.int .u8 1), .val (.int .u8 2)]]) ty_e22 ty_zs43 ty_s43 (by decide) rfl (by decide) rfl (by first | rfl | simp [D.known, D.cells]) ?_
  refine n_on rfl rfl (by decide) rfl ?_
  refine n_call2 (by decide) rfl rfl (r := .d (.val (.bool true))) (spec_er (es := [gridD .u8 [[1, 0, 1], [0, 1, 2]], gridD .u8 [[1, 0, 1], [0, 1, 2]]]) (by simp [er_sl, er_val, er_nilV, er_gridD, er_rowD, gridD, rowD, iD]) (sp19 ev_14)) ?_
  refine n_pick (by decide) (b := true) rfl (v := .d (.val (.bool true))) rfl ?_
  refine n_move (by decide) (v := .d (.val (.bool true))) rfl ?_
  refine n_on rfl rfl (by decide) rfl ?_
  refine n_move (by decide) (v := .d ((rowD .i64 [0, 1]))) rfl ?_
  refine n_on rfl rfl (by decide) rfl ?_
  refine n_build (by decide) (xs := [.val (.int .i64 0), .val (.int .i64 1)]) ty_e29 ty_zs3 ty_s3 (by decide) rfl (by decide) rfl (by first | rfl | simp [D.known, D.cells]) ?_
  refine n_on rfl rfl (by decide) rfl ?_
  refine n_call2 (by decide) rfl rfl (r := .d (.val (.bool true))) (spec_er (es := [rowD .i64 [0, 1], rowD .i64 [0, 1]]) (by simp [er_sl, er_val, er_nilV, er_gridD, er_rowD, gridD, rowD, iD]) (sp20 ev_15)) ?_
  refine n_pick (by decide) (b := true) rfl (v := .d (.val (.bool true))) rfl ?_
  refine n_move (by decide) (v := .d (.val (.bool true))) rfl ?_
  refine n_on rfl rfl (by decide) rfl ?_
  refine n_move (by decide) (v := .d ((rowD .u8 [5, 6, 0]))) rfl ?_
  refine n_on rfl rfl (by decide) rfl ?_
  refine n_build (by decide) (xs := [.val (.int .u8 5), .val (.int .u8 6), .val (.int .u8 0)]) ty_e43 ty_zs5 ty_s5 (by decide) rfl (by decide) rfl (by first | rfl | simp [D.known, D.cells]) ?_
  refine n_on rfl rfl (by decide) rfl ?_
  refine n_call2 (by decide) rfl rfl (r := .d (.val (.bool true))) (spec_er (es := [rowD .u8 [5, 6, 0], rowD .u8 [5, 6, 0]]) (by simp [er_sl, er_val, er_nilV, er_gridD, er_rowD, gridD, rowD, iD]) (sp27 ev_16)) ?_
  refine n_pick (by decide) (b := true) rfl (v := .d (.val (.bool true))) rfl ?_
  refine n_move (by decide) (v := .d (.val (.bool true))) rfl ?_
  refine n_on rfl rfl (by decide) rfl ?_
  refine n_move (by decide) (v := .d ((gridD .u8 [[1, 2, 1]]))) rfl ?_
  refine n_on rfl rfl (by decide) rfl ?_
  refine n_build (by decide) (xs := [.val (.int .u8 1), .val (.int .u8 2), .val (.int .u8 1)]) ty_e43 ty_zs5 ty_s5 (by decide) rfl (by decide) rfl (by first | rfl | simp [D.known, D.cells]) ?_
  refine n_on rfl rfl (by decide) rfl ?_
  refine n_build (by decide) (xs := [.sl true [.val (.int .u8 1), .val (.int .u8 2), .val (.int .u8 1)]]) ty_e22 ty_zs43 ty_s43 (by decide) rfl (by decide) rfl (by first | rfl | simp [D.known, D.cells]) ?_
  refine n_on rfl rfl (by decide) rfl ?_
  refine n_call2 (by decide) rfl rfl (r := .d (.val (.bool true))) (spec_er (es := [gridD .u8 [[1, 2, 1]], gridD .u8 [[1, 2, 1]]]) (by simp [er_sl, er_val, er_nilV, er_gridD, er_rowD, gridD, rowD, iD]) (sp19 ev_17)) ?_
  refine n_pick (by decide) (b := true) rfl (v := .d (.val (.bool true))) rfl ?_
  refine n_assign (by decide) (v := .d (.val (.bool true))) rfl ?_
  refine n_nil ?_
  refine a_seq_region ?_
  refine n_move (by decide) (v := .d ((gridD .u8 [[1, 1], [0, 1]]))) rfl ?_
  refine n_build (by decide) (xs := [.val (.int .u8 1), .val (.int .u8 1)]) ty_e43 ty_zs5 ty_s5 (by decide) rfl (by decide) rfl (by first | rfl | simp [D.known, D.cells]) ?_
  refine n_build (by decide) (xs := [.val (.int .u8 0), .val (.int .u8 1)]) ty_e43 ty_zs5 ty_s5 (by decide) rfl (by decide) rfl (by first | rfl | simp [D.known, D.cells]) ?_
  refine n_build (by decide) (xs := [.sl true [.val (.int .u8 1), .val (.int .u8 1)], .sl true [.val (.int .u8 0), .val (.int .u8 1)]]) ty_e22 ty_zs43 ty_s43 (by decide) rfl (by decide) rfl (by first | rfl | simp [D.known, D.cells]) ?_
  refine n_call2 (by decide) rfl rfl (r := .d (.val (.bool true))) (spec_er (es := [gridD .u8 [[1, 1], [0, 1]], gridD .u8 [[1, 1], [0, 1]]]) (by simp [er_sl, er_val, er_nilV, er_gridD, er_rowD, gridD, rowD, iD]) (sp19 ev_18)) ?_
  refine n_move (by decide) (v := .d (.val (.bool true))) rfl ?_
  refine n_on rfl rfl (by decide) rfl ?_
  refine n_move (by decide) (v := .d ((rowD .u8 [1, 0, 1]))) rfl ?_
  refine n_on rfl rfl (by decide) rfl ?_
  refine n_build (by decide) (xs := [.val (.int .u8 1), .val (.int .u8 0), .val (.int .u8 1)]) ty_e43 ty_zs5 ty_s5 (by decide) rfl (by decide) rfl (by first | rfl | simp [D.known, D.cells]) ?_
  refine n_on rfl rfl (by decide) rfl ?_
  refine n_call2 (by decide) rfl rfl (r := .d (.val (.bool true))) (spec_er (es := [rowD .u8 [1, 0, 1], rowD .u8 [1, 0, 1]]) (by simp [er_sl, er_val, er_nilV, er_gridD, er_rowD, gridD, rowD, iD]) (sp27 ev_19)) ?_
  refine n_pick (by decide) (b := true) rfl (v := .d (.val (.bool true))) rfl ?_
  refine n_move (by decide) (v := .d (.val (.bool true))) rfl ?_
  refine n_on rfl rfl (by decide) rfl ?_
  refine n_move (by decide) (v := .d ((rowD .u8 []))) rfl ?_
  refine n_on rfl rfl (by decide) rfl ?_
  refine n_len (by decide) (xs := _) rfl rfl rfl ty_ei43 (n := 0) (by simp) (fun hl_204 => ?_)
  refine n_on rfl rfl (by decide) rfl ?_
  refine n_int (by decide) (v := (.bool true)) rfl rfl (by first | rfl | decide) ?_
  refine n_pick (by decide) (b := true) rfl (v := .d (.val (.bool true))) rfl ?_
  refine n_move (by decide) (v := .d (.val (.bool true))) rfl ?_
  refine n_on rfl rfl (by decide) rfl ?_
  refine n_move (by decide) (v := .d ((gridD .u8 [[1], [2], [3]]))) rfl ?_
  refine n_on rfl rfl (by decide) rfl ?_
  refine n_build (by decide) (xs := [.val (.int .u8 1)]) ty_e43 ty_zs5 ty_s5 (by decide) rfl (by decide) rfl (by first | rfl | simp [D.known, D.cells]) ?_
  refine n_on rfl rfl (by decide) rfl ?_
  refine n_build (by decide) (xs := [.val (.int .u8 2)]) ty_e43 ty_zs5 ty_s5 (by decide) rfl (by decide) rfl (by first | rfl | simp [D.known, D.cells]) ?_
  refine n_on rfl rfl (by decide) rfl ?_
  refine n_build (by decide) (xs := [.val (.int .u8 3)]) ty_e43 ty_zs5 ty_s5 (by decide) rfl (by decide) rfl (by first | rfl | simp [D.known, D.cells]) ?_
  refine n_on rfl rfl (by decide) rfl ?_
  refine n_build (by decide) (xs := [.sl true [.val (.int .u8 1)], .sl true [.val (.int .u8 2)], .sl true [.val (.int .u8 3)]]) ty_e22 ty_zs43 ty_s43 (by decide) rfl (by decide) rfl (by first | rfl | simp [D.known, D.cells]) ?_
  refine n_on rfl rfl (by decide) rfl ?_
  refine n_call2 (by decide) rfl rfl (r := .d (.val (.bool true))) (spec_er (es := [gridD .u8 [[1], [2], [3]], gridD .u8 [[1], [2], [3]]]) (by simp [er_sl, er_val, er_nilV, er_gridD, er_rowD, gridD, rowD, iD]) (sp19 ev_20)) ?_
  refine n_pick (by decide) (b := true) rfl (v := .d (.val (.bool true))) rfl ?_
  refine n_move (by decide) (v := .d (.val (.bool true))) rfl ?_
  refine n_on rfl rfl (by decide) rfl ?_
  refine n_move (by decide) (v := .d (.val (.int .i64 1))) rfl ?_
  refine n_on rfl rfl (by decide) rfl ?_
  refine n_int (by decide) (v := (.bool true)) rfl rfl (by first | rfl | decide) ?_
  refine n_pick (by decide) (b := true) rfl (v := .d (.val (.bool true))) rfl ?_
  refine n_assign (by decide) (v := .d (.val (.bool true))) rfl ?_
  refine n_nil ?_
  refine a_seq_region ?_
  refine n_move (by decide) (v := .d (.val (.bool true))) rfl ?_
  refine n_move (by decide) (v := .d (.val (.bool true))) rfl ?_
  refine n_on rfl rfl (by decide) rfl ?_
  refine n_move (by decide) (v := .d (.val (.bool true))) rfl ?_
  refine n_pick (by decide) (b := true) rfl (v := .d (.val (.bool true))) rfl ?_
  refine n_move (by decide) (v := .d (.val (.bool true))) rfl ?_
  refine n_on rfl rfl (by decide) rfl ?_
  refine n_move (by decide) (v := .d (.val (.bool true))) rfl ?_
  refine n_pick (by decide) (b := true) rfl (v := .d (.val (.bool true))) rfl ?_
  refine n_move (by decide) (v := .d (.val (.bool true))) rfl ?_
  refine n_on rfl rfl (by decide) rfl ?_
  refine n_move (by decide) (v := .d (.val (.bool true))) rfl ?_
  refine n_pick (by decide) (b := true) rfl (v := .d (.val (.bool true))) rfl ?_
  refine n_assign (by decide) (v := .d (.val (.bool true))) rfl ?_
  refine n_nil ?_
  exact a_ret ⟨.inr rfl, rfl⟩
end Go.Proofs.YtijebgceopddmaaDoor.Ax
end
