/- Parts of the proof, laid together by a program of this session: Pa4, Pa5, Pa6, Pa7, Pa8, AxSpec, AxStep, AxTy, AxSane, AxLoop. -/
import Derived.Test.YtijebgceopddmaaDoorKt2
import Derived.Test.YtijebgceopddmaaDoorKt3
import Derived.Test.YtijebgceopddmaaDoorKt1
import Derived.Test.YtijebgceopddmaaDoorKt0
import Derived.Test.YtijebgceopddmaaDoorProg
set_option linter.unusedVariables false
set_option linter.unusedSimpArgs false
section
namespace Go.Proofs.YtijebgceopddmaaDoor.Pa
open Go.RowKit Go.Proofs.YtijebgceopddmaaDoor.Gf Go.Proofs.YtijebgceopddmaaDoor.Pr Go.Proofs.YtijebgceopddmaaDoorW.PrintWords Go.Proofs.YtijebgceopddmaaDoorW.PrintLast Go.Proofs.YtijebgceopddmaaDoorW.PrintMore
attribute [local go_sem] max2_int min2_int max_two min_two max_three min_three max_four min_four   -- for this text's walks alone
set_option linter.unusedVariables false
set_option linter.unusedSimpArgs false
def matrix_Solve.f (k : Nat) (l0 : List (List Int)) (l1 : List Int) : Option (List Int × (List (List Int)) × Int) := (matrix_Check.f k l0).bind fun t167 => (if t167 = 0 then (if (l1.length : Int) = (l0.length : Int) then ((matrix_columns.f l0).bind fun t168 => ((matrix_solve.f k l0 l1 t168).bind fun bt169 => (if bt169.2.2 = true then (some (bt169.1, bt169.2.1, 0)) else (some (([] : List Int), ([] : List (List Int)), 8))))) else (some (([] : List Int), ([] : List (List Int)), 1))) else (some (([] : List Int), ([] : List (List Int)), t167)))
set_option maxHeartbeats 8000000 in
set_option maxRecDepth 100000 in
theorem matrix_Solve.calls (k : Nat) (A0 : Option Addr) (c0 : Nat) (l0 : List (List Int)) (A1 : Option Addr) (c1 : Nat) (l1 : List Int) (r1 : List Int) (r2 : List (List Int)) (r3 : Int) (w : World) (hG : HighIn w) (hr0 : Kd.C (Kd.slice 5 (Kd.int .u8)) w A0 l0.length l0) (hc0 : l0.length ≤ c0) (hr1 : Kd.C (Kd.int .u8) w A1 l1.length l1) (hc1 : l1.length ≤ c1) (h : matrix_Solve.f k l0 l1 = some (r1, r2, r3)) :
  Calls Tryd.prog 21 #[.slice A0 l0.length c0, .slice A1 l1.length c1] w fun e w' => ∃ v0_ v1_ : Value, e = .returned (.tuple #[v0_, v1_, .int .i64 r3]) ∧ Kd.R (Kd.int .u8) 5 w' w.heap.size (fun _ => True) v0_ r1 ∧ Kd.S (Kd.slice 5 (Kd.int .u8)) 43 w' w.heap.size (fun k_ => some k_ ≠ (v0_ : Value).ownBlock) v1_ r2 ∧ Below w.heap.size w w' := by
 have HG := Aside0.mk hG
 clear hG
 have HR0 := Aside0.mk hr0
 have HC0 := Aside0.mk hc0
 clear hr0 hc0
 have HR1 := Aside0.mk hr1
 have HC1 := Aside0.mk hc1
 clear hr1 hc1
 have HB := Aside0.mk (Below.refl w.heap.size w)
 have H : ((matrix_Check.f k l0).bind fun t167 => (if t167 = 0 then (if (l1.length : Int) = (l0.length : Int) then ((matrix_columns.f l0).bind fun t168 => ((matrix_solve.f k l0 l1 t168).bind fun bt169 => (if bt169.2.2 = true then (some (bt169.1, bt169.2.1, 0)) else (some (([] : List Int), ([] : List (List Int)), 8))))) else (some (([] : List Int), ([] : List (List Int)), 1))) else (some (([] : List Int), ([] : List (List Int)), t167)))) = some (r1, r2, r3) := h
 clear h
 replace H := Option.bind_eq_some_iff.mp H
 obtain ⟨t167, A30, H⟩ := H
 replace H : (if t167 = 0 then (if (l1.length : Int) = (l0.length : Int) then ((matrix_columns.f l0).bind fun t168 => ((matrix_solve.f k l0 l1 t168).bind fun bt169 => (if bt169.2.2 = true then (some (bt169.1, bt169.2.1, 0)) else (some (([] : List Int), ([] : List (List Int)), 8))))) else (some (([] : List Int), ([] : List (List Int)), 1))) else (some (([] : List Int), ([] : List (List Int)), t167))) = some (r1, r2, r3) := H
 have A3 := Aside0.mk A30
 clear A30
 by_cases c4 : t167 = 0
 ·rw [if_pos c4] at H
  have c4b0 : (t167 == 0) = true := beq_iff_eq.mpr c4
  have c4b1 : (t167 != 0) = false := bne_eq_false_iff_eq.mpr c4
  clear c4
  by_cases c5 : (l1.length : Int) = (l0.length : Int)
  ·rw [if_pos c5] at H
   have c5b0 : ((l1.length : Int) == (l0.length : Int)) = true := beq_iff_eq.mpr c5
   have c5b1 : ((l1.length : Int) != (l0.length : Int)) = false := bne_eq_false_iff_eq.mpr c5
   have c5b2 : (l1.length == l0.length) = true := by first | simpa using c5 | (simp at c5 ⊢; omega)
   clear c5
   replace H := Option.bind_eq_some_iff.mp H
   obtain ⟨t168, A60, H⟩ := H
   replace H : ((matrix_solve.f k l0 l1 t168).bind fun bt169 => (if bt169.2.2 = true then (some (bt169.1, bt169.2.1, 0)) else (some (([] : List Int), ([] : List (List Int)), 8)))) = some (r1, r2, r3) := H
   have A6 := Aside0.mk A60
   clear A60
   replace H := Option.bind_eq_some_iff.mp H
   obtain ⟨⟨t169, t170, t171⟩, A70, H⟩ := H
   replace H : (if t171 = true then (some (t169, t170, 0)) else (some (([] : List Int), ([] : List (List Int)), 8))) = some (r1, r2, r3) := H
   have A7 := Aside0.mk A70
   clear A70
   by_cases c8 : t171 = true
   ·subst c8
    have H1 : (some (t169, t170, 0)) = some (r1, r2, r3) := by rw [if_pos rfl] at H; exact H
    clear H
    have H := H1
    clear H1
    simp only [Option.some.injEq, Prod.mk.injEq] at H
    obtain ⟨rfl, rfl, rfl⟩ := H
    go_enter Tryd.func21, Tryd.ntmps21
    go_wp2_with (first | ((with_reducible refine gate_callee (f := 16) rfl ?_); refine goesL_ (some 10) rfl rfl Tryd.func16 (by kernel_rfl) rfl #[.slice A0 l0.length c0] rfl (by (try simp only [List.map_toArray, List.map_cons, List.map_nil]); first | done | rfl | (simp only [List.length_drop, List.length_take]; rfl)) ?_; (with_reducible refine (matrix_Check.calls k _ _ l0 t167 _ ?side1 ?side2 A3.out).mono ?_); (case side1 => repeat (first | exact HR0.out | (with_reducible refine Kd.C_alloc ?_ _) | (with_reducible refine Kd.C_drewN ?_ _) | (with_reducible refine Kd.C_drew ?_))); (case side2 => exact HC0.out); rintro e w' ⟨rfl, ⟨nd, rfl⟩⟩; refine ⟨_, rfl, ?_⟩) | ((with_reducible refine gate_callee (f := 36) rfl ?_); refine goesL_ (some 23) rfl rfl Tryd.func36 (by kernel_rfl) rfl #[.slice A0 l0.length c0] rfl (by (try simp only [List.map_toArray, List.map_cons, List.map_nil]); first | done | rfl | (simp only [List.length_drop, List.length_take]; rfl)) ?_; (with_reducible refine (matrix_columns.calls _ _ l0 t168 _ ?side1 ?side2 A6.out).mono ?_); (case side1 => repeat (first | exact HR0.out | (with_reducible refine Kd.C_alloc ?_ _) | (with_reducible refine Kd.C_drewN ?_ _) | (with_reducible refine Kd.C_drew ?_))); (case side2 => exact HC0.out); rintro e w' ⟨rfl, ⟨nd, rfl⟩⟩; refine ⟨_, rfl, ?_⟩) | ((with_reducible refine gate_callee (f := 42) rfl ?_); refine goesL_ (some 24) rfl rfl Tryd.func42 (by kernel_rfl) rfl #[.slice A0 l0.length c0, .slice A1 l1.length c1, .int .i64 t168] rfl (by (try simp only [List.map_toArray, List.map_cons, List.map_nil]); first | done | rfl | (simp only [List.length_drop, List.length_take]; rfl)) ?_; (with_reducible refine (matrix_solve.calls k _ _ l0 _ _ l1 t168 t169 t170 true _ ?side1 ?side2 ?side3 ?side4 ?side5 A7.out).mono ?_); (case side1 => first | (with_reducible exact HG.out) | (with_reducible exact HighIn.drewN HG.out _) | exact HighIn.below HG.out (by repeat (first | (with_reducible first | exact HB.out | apply below_alloc | apply pw_below_drewN | apply below_drew1) | exact HB.out)) | ((repeat (first | (with_reducible exact HG.out) | (with_reducible apply HighIn.drewN) | (with_reducible apply HighIn.drew) | (with_reducible apply HighIn.alloc))); done)); (case side2 => repeat (first | exact HR0.out | (with_reducible refine Kd.C_alloc ?_ _) | (with_reducible refine Kd.C_drewN ?_ _) | (with_reducible refine Kd.C_drew ?_))); (case side3 => exact HC0.out); (case side4 => repeat (first | exact HR1.out | (with_reducible refine Kd.C_alloc ?_ _) | (with_reducible refine Kd.C_drewN ?_ _) | (with_reducible refine Kd.C_drew ?_))); (case side5 => exact HC1.out); rintro e w9 ⟨v172, v174, rfl, ho0, ho1, hb⟩; refine ⟨_, rfl, ?_⟩; have n0_ := Aside0.mk (Kd.R_lower ho0 (below_size (by repeat (first | (with_reducible first | exact HB.out | apply below_alloc | apply pw_below_drewN | apply below_drew1) | exact HB.out)))); have n1_ := Aside0.mk (Kd.S_lower ho1 (below_size (by repeat (first | (with_reducible first | exact HB.out | apply below_alloc | apply pw_below_drewN | apply below_drew1) | exact HB.out)))); have n2_ := Aside0.mk (below_step (by repeat (first | (with_reducible first | exact HB.out | apply below_alloc | apply pw_below_drewN | apply below_drew1) | exact HB.out)) hb); clear HB; have HO173 := n0_; have HO175 := n1_; have HB := n2_; clear n0_ n1_ n2_; (try clear hb); (try clear hb2); (try clear hk); (try clear hi); (try clear ho0); (try clear ho1)))
    go_ret3
    exact ⟨_, _, by first | rfl | (simp [errW_none, errW_some] <;> rfl) | (simp [*, errW_none, errW_some] <;> rfl), by (with_reducible repeat (first | apply Kd.R_alloc | apply Kd.R_drewN | apply Kd.R_drew)); exact HO173.out, by (with_reducible repeat (first | apply Kd.S_alloc | apply Kd.S_drewN | apply Kd.S_drew)); exact HO175.out, by repeat (first | (with_reducible first | exact HB.out | apply below_alloc | apply pw_below_drewN | apply below_drew1) | exact HB.out)⟩
   ·replace c8 := Bool.eq_false_iff.mpr c8
    subst c8
    have H1 : (some (([] : List Int), ([] : List (List Int)), 8)) = some (r1, r2, r3) := by rw [if_neg (show ¬ (false = true) by decide)] at H; exact H
    clear H
    have H := H1
    clear H1
    simp only [Option.some.injEq, Prod.mk.injEq] at H
    obtain ⟨rfl, rfl, rfl⟩ := H
    go_enter Tryd.func21, Tryd.ntmps21
    go_wp2_with (first | ((with_reducible refine gate_callee (f := 16) rfl ?_); refine goesL_ (some 10) rfl rfl Tryd.func16 (by kernel_rfl) rfl #[.slice A0 l0.length c0] rfl (by (try simp only [List.map_toArray, List.map_cons, List.map_nil]); first | done | rfl | (simp only [List.length_drop, List.length_take]; rfl)) ?_; (with_reducible refine (matrix_Check.calls k _ _ l0 t167 _ ?side1 ?side2 A3.out).mono ?_); (case side1 => repeat (first | exact HR0.out | (with_reducible refine Kd.C_alloc ?_ _) | (with_reducible refine Kd.C_drewN ?_ _) | (with_reducible refine Kd.C_drew ?_))); (case side2 => exact HC0.out); rintro e w' ⟨rfl, ⟨nd, rfl⟩⟩; refine ⟨_, rfl, ?_⟩) | ((with_reducible refine gate_callee (f := 36) rfl ?_); refine goesL_ (some 23) rfl rfl Tryd.func36 (by kernel_rfl) rfl #[.slice A0 l0.length c0] rfl (by (try simp only [List.map_toArray, List.map_cons, List.map_nil]); first | done | rfl | (simp only [List.length_drop, List.length_take]; rfl)) ?_; (with_reducible refine (matrix_columns.calls _ _ l0 t168 _ ?side1 ?side2 A6.out).mono ?_); (case side1 => repeat (first | exact HR0.out | (with_reducible refine Kd.C_alloc ?_ _) | (with_reducible refine Kd.C_drewN ?_ _) | (with_reducible refine Kd.C_drew ?_))); (case side2 => exact HC0.out); rintro e w' ⟨rfl, ⟨nd, rfl⟩⟩; refine ⟨_, rfl, ?_⟩) | ((with_reducible refine gate_callee (f := 42) rfl ?_); refine goesL_ (some 24) rfl rfl Tryd.func42 (by kernel_rfl) rfl #[.slice A0 l0.length c0, .slice A1 l1.length c1, .int .i64 t168] rfl (by (try simp only [List.map_toArray, List.map_cons, List.map_nil]); first | done | rfl | (simp only [List.length_drop, List.length_take]; rfl)) ?_; (with_reducible refine (matrix_solve.calls k _ _ l0 _ _ l1 t168 t169 t170 false _ ?side1 ?side2 ?side3 ?side4 ?side5 A7.out).mono ?_); (case side1 => first | (with_reducible exact HG.out) | (with_reducible exact HighIn.drewN HG.out _) | exact HighIn.below HG.out (by repeat (first | (with_reducible first | exact HB.out | apply below_alloc | apply pw_below_drewN | apply below_drew1) | exact HB.out)) | ((repeat (first | (with_reducible exact HG.out) | (with_reducible apply HighIn.drewN) | (with_reducible apply HighIn.drew) | (with_reducible apply HighIn.alloc))); done)); (case side2 => repeat (first | exact HR0.out | (with_reducible refine Kd.C_alloc ?_ _) | (with_reducible refine Kd.C_drewN ?_ _) | (with_reducible refine Kd.C_drew ?_))); (case side3 => exact HC0.out); (case side4 => repeat (first | exact HR1.out | (with_reducible refine Kd.C_alloc ?_ _) | (with_reducible refine Kd.C_drewN ?_ _) | (with_reducible refine Kd.C_drew ?_))); (case side5 => exact HC1.out); rintro e w10 ⟨v172, v174, rfl, ho0, ho1, hb⟩; refine ⟨_, rfl, ?_⟩; have n0_ := Aside0.mk (Kd.R_lower ho0 (below_size (by repeat (first | (with_reducible first | exact HB.out | apply below_alloc | apply pw_below_drewN | apply below_drew1) | exact HB.out)))); have n1_ := Aside0.mk (Kd.S_lower ho1 (below_size (by repeat (first | (with_reducible first | exact HB.out | apply below_alloc | apply pw_below_drewN | apply below_drew1) | exact HB.out)))); have n2_ := Aside0.mk (below_step (by repeat (first | (with_reducible first | exact HB.out | apply below_alloc | apply pw_below_drewN | apply below_drew1) | exact HB.out)) hb); clear HB; have HO173 := n0_; have HO175 := n1_; have HB := n2_; clear n0_ n1_ n2_; (try clear hb); (try clear hb2); (try clear hk); (try clear hi); (try clear ho0); (try clear ho1)))
    go_ret3
    exact ⟨_, _, by first | rfl | (simp [errW_none, errW_some] <;> rfl) | (simp [*, errW_none, errW_some] <;> rfl), by first | exact Kd.R_nil _ _ _ _ _ | exact Kd.N_nil _ _ _ _ _ | exact Kd.V_nil _ _ _ _ _ | exact Kd.Q_nil _ _ _ _ _ | exact Kd.S_nil _ _ _ _ _, by first | exact Kd.S_nil _ _ _ _ _ | exact Kd.N_nil _ _ _ _ _ | exact Kd.V_nil _ _ _ _ _ | exact Kd.Q_nil _ _ _ _ _ | exact Kd.R_nil _ _ _ _ _, by repeat (first | (with_reducible first | exact HB.out | apply below_alloc | apply pw_below_drewN | apply below_drew1) | exact HB.out)⟩
  ·rw [if_neg c5] at H
   have c5b0 : ((l1.length : Int) == (l0.length : Int)) = false := beq_eq_false_iff_ne.mpr c5
   have c5b1 : ((l1.length : Int) != (l0.length : Int)) = true := bne_iff_ne.mpr c5
   have c5b2 : (l1.length == l0.length) = false := by first | simpa using c5 | (simp at c5 ⊢; omega)
   simp only [Option.some.injEq, Prod.mk.injEq] at H
   obtain ⟨rfl, rfl, rfl⟩ := H
   go_enter Tryd.func21, Tryd.ntmps21
   go_wp2_with (first | ((with_reducible refine gate_callee (f := 16) rfl ?_); refine goesL_ (some 10) rfl rfl Tryd.func16 (by kernel_rfl) rfl #[.slice A0 l0.length c0] rfl (by (try simp only [List.map_toArray, List.map_cons, List.map_nil]); first | done | rfl | (simp only [List.length_drop, List.length_take]; rfl)) ?_; (with_reducible refine (matrix_Check.calls k _ _ l0 t167 _ ?side1 ?side2 A3.out).mono ?_); (case side1 => repeat (first | exact HR0.out | (with_reducible refine Kd.C_alloc ?_ _) | (with_reducible refine Kd.C_drewN ?_ _) | (with_reducible refine Kd.C_drew ?_))); (case side2 => exact HC0.out); rintro e w' ⟨rfl, ⟨nd, rfl⟩⟩; refine ⟨_, rfl, ?_⟩))
   go_ret3
   exact ⟨_, _, by first | rfl | (simp [errW_none, errW_some] <;> rfl) | (simp [*, errW_none, errW_some] <;> rfl), by first | exact Kd.R_nil _ _ _ _ _ | exact Kd.N_nil _ _ _ _ _ | exact Kd.V_nil _ _ _ _ _ | exact Kd.Q_nil _ _ _ _ _ | exact Kd.S_nil _ _ _ _ _, by first | exact Kd.S_nil _ _ _ _ _ | exact Kd.N_nil _ _ _ _ _ | exact Kd.V_nil _ _ _ _ _ | exact Kd.Q_nil _ _ _ _ _ | exact Kd.R_nil _ _ _ _ _, by repeat (first | (with_reducible first | exact HB.out | apply below_alloc | apply pw_below_drewN | apply below_drew1) | exact HB.out)⟩
 ·rw [if_neg c4] at H
  have c4b0 : (t167 == 0) = false := beq_eq_false_iff_ne.mpr c4
  have c4b1 : (t167 != 0) = true := bne_iff_ne.mpr c4
  simp only [Option.some.injEq, Prod.mk.injEq] at H
  obtain ⟨rfl, rfl, rfl⟩ := H
  go_enter Tryd.func21, Tryd.ntmps21
  go_wp2_with (first | ((with_reducible refine gate_callee (f := 16) rfl ?_); refine goesL_ (some 10) rfl rfl Tryd.func16 (by kernel_rfl) rfl #[.slice A0 l0.length c0] rfl (by (try simp only [List.map_toArray, List.map_cons, List.map_nil]); first | done | rfl | (simp only [List.length_drop, List.length_take]; rfl)) ?_; (with_reducible refine (matrix_Check.calls k _ _ l0 t167 _ ?side1 ?side2 A3.out).mono ?_); (case side1 => repeat (first | exact HR0.out | (with_reducible refine Kd.C_alloc ?_ _) | (with_reducible refine Kd.C_drewN ?_ _) | (with_reducible refine Kd.C_drew ?_))); (case side2 => exact HC0.out); rintro e w' ⟨rfl, ⟨nd, rfl⟩⟩; refine ⟨_, rfl, ?_⟩))
  go_ret3
  exact ⟨_, _, by first | rfl | (simp [errW_none, errW_some] <;> rfl) | (simp [*, errW_none, errW_some] <;> rfl), by first | exact Kd.R_nil _ _ _ _ _ | exact Kd.N_nil _ _ _ _ _ | exact Kd.V_nil _ _ _ _ _ | exact Kd.Q_nil _ _ _ _ _ | exact Kd.S_nil _ _ _ _ _, by first | exact Kd.S_nil _ _ _ _ _ | exact Kd.N_nil _ _ _ _ _ | exact Kd.V_nil _ _ _ _ _ | exact Kd.Q_nil _ _ _ _ _ | exact Kd.R_nil _ _ _ _ _, by repeat (first | (with_reducible first | exact HB.out | apply below_alloc | apply pw_below_drewN | apply below_drew1) | exact HB.out)⟩
def matrix_Inverse.l0 : Nat → List Int → Int → Int → Int → List (List Int) → Option ((List (List Int)) × Int)
 | 0, _, _, _, _, _ => none
 | k + 1, x30, x31, x32, x178000, x190000 => if x32 < x31 then (if 0 ≤ x32 then (if x32 < (x30.length : Int) then (if (rd x30 x32) = x32 then (matrix_Inverse.l0 k x30 x31 (wrap64 (x32 + 1)) x178000 x190000) else (some (([] : List (List Int)), 8))) else (none)) else (none)) else ((grid_45.f x178000 x178000 x190000 x178000).bind fun t191 => (some (t191, 0)))
def matrix_Inverse.f (k : Nat) (l0 : List (List Int)) : Option ((List (List Int)) × Int) := (matrix_Check.f k l0).bind fun t178 => (if t178 = 0 then ((matrix_columns.f l0).bind fun t179 => (if t179 = (l0.length : Int) then ((grid_44.f (l0.length : Int) (wrap64 (2 * (l0.length : Int))) (l0.length : Int) l0).bind fun t180 => ((Prt.matrix_reduce.f k t180).bind fun bt183 => (matrix_Inverse.l0 k bt183.2 (bt183.2.length : Int) 0 (l0.length : Int) bt183.1))) else (some (([] : List (List Int)), 1)))) else (some (([] : List (List Int)), t178)))
set_option maxHeartbeats 8000000 in
set_option maxRecDepth 100000 in
theorem matrix_Inverse.calls (k : Nat) (A0 : Option Addr) (c0 : Nat) (l0 : List (List Int)) (r1 : List (List Int)) (r2 : Int) (w : World) (hG : HighIn w) (hr0 : Kd.C (Kd.slice 5 (Kd.int .u8)) w A0 l0.length l0) (hc0 : l0.length ≤ c0) (h : matrix_Inverse.f k l0 = some (r1, r2)) :
  Calls Tryd.prog 23 #[.slice A0 l0.length c0] w fun e w' => ∃ v0_ : Value, e = .returned (.tuple #[v0_, .int .i64 r2]) ∧ Kd.S (Kd.slice 5 (Kd.int .u8)) 43 w' w.heap.size (fun _ => True) v0_ r1 ∧ Below w.heap.size w w' := by
 have hmf : ∀ (fn : Fn) (first cap : Array Value) (w : World), (Instr.makeFunc fn first cap).run Tryd.prog w = .ok (.func fn first cap) w := fun _ _ _ _ => rfl
 have HG := Aside0.mk hG
 clear hG
 have HR0 := Aside0.mk hr0
 have HC0 := Aside0.mk hc0
 clear hr0 hc0
 have HB := Aside0.mk (Below.refl w.heap.size w)
 have H : ((matrix_Check.f k l0).bind fun t178 => (if t178 = 0 then ((matrix_columns.f l0).bind fun t179 => (if t179 = (l0.length : Int) then ((grid_44.f (l0.length : Int) (wrap64 (2 * (l0.length : Int))) (l0.length : Int) l0).bind fun t180 => ((Prt.matrix_reduce.f k t180).bind fun bt183 => (matrix_Inverse.l0 k bt183.2 (bt183.2.length : Int) 0 (l0.length : Int) bt183.1))) else (some (([] : List (List Int)), 1)))) else (some (([] : List (List Int)), t178)))) = some (r1, r2) := h
 clear h
 replace H := Option.bind_eq_some_iff.mp H
 obtain ⟨t178, A20, H⟩ := H
 replace H : (if t178 = 0 then ((matrix_columns.f l0).bind fun t179 => (if t179 = (l0.length : Int) then ((grid_44.f (l0.length : Int) (wrap64 (2 * (l0.length : Int))) (l0.length : Int) l0).bind fun t180 => ((Prt.matrix_reduce.f k t180).bind fun bt183 => (matrix_Inverse.l0 k bt183.2 (bt183.2.length : Int) 0 (l0.length : Int) bt183.1))) else (some (([] : List (List Int)), 1)))) else (some (([] : List (List Int)), t178))) = some (r1, r2) := H
 have A2 := Aside0.mk A20
 clear A20
 by_cases c3 : t178 = 0
 ·rw [if_pos c3] at H
  have c3b0 : (t178 == 0) = true := beq_iff_eq.mpr c3
  have c3b1 : (t178 != 0) = false := bne_eq_false_iff_eq.mpr c3
  clear c3
  replace H := Option.bind_eq_some_iff.mp H
  obtain ⟨t179, A40, H⟩ := H
  replace H : (if t179 = (l0.length : Int) then ((grid_44.f (l0.length : Int) (wrap64 (2 * (l0.length : Int))) (l0.length : Int) l0).bind fun t180 => ((Prt.matrix_reduce.f k t180).bind fun bt183 => (matrix_Inverse.l0 k bt183.2 (bt183.2.length : Int) 0 (l0.length : Int) bt183.1))) else (some (([] : List (List Int)), 1))) = some (r1, r2) := H
  have A4 := Aside0.mk A40
  clear A40
  by_cases c5 : t179 = (l0.length : Int)
  ·rw [if_pos c5] at H
   have c5b0 : (t179 == (l0.length : Int)) = true := beq_iff_eq.mpr c5
   have c5b1 : (t179 != (l0.length : Int)) = false := bne_eq_false_iff_eq.mpr c5
   clear c5
   replace H := Option.bind_eq_some_iff.mp H
   obtain ⟨t180, A60, H⟩ := H
   replace H : ((Prt.matrix_reduce.f k t180).bind fun bt183 => (matrix_Inverse.l0 k bt183.2 (bt183.2.length : Int) 0 (l0.length : Int) bt183.1)) = some (r1, r2) := H
   have A6 := Aside0.mk A60
   clear A60
   replace H := Option.bind_eq_some_iff.mp H
   obtain ⟨⟨t183, t184⟩, A70, H⟩ := H
   replace H : (matrix_Inverse.l0 k t184 (t184.length : Int) 0 (l0.length : Int) t183) = some (r1, r2) := H
   have A7 := Aside0.mk A70
   clear A70
   have H' := Aside0.mk H
   clear H
   go_enter Tryd.func23, Tryd.ntmps23
   go_wp2_with (first | ((with_reducible refine gate_dst (N := 1) rfl ?_); refine box_event ?hg (N := 1) ?hd (cs := #[.slice A0 l0.length c0]) (t := 22) ?hr ?_; (case hd => rfl); (case hg => rfl); (case hr => first | (go_simp; done) | (go_simp; rfl)); intro gb176 hg w8 hbox hb; have n0_ := Aside0.mk (below_step (by repeat (first | (with_reducible first | exact HB.out | apply below_alloc | apply pw_below_drewN | apply below_drew1) | exact HB.out)) hb); have n1_ := Aside0.mk (hbox); have n2_ := Aside0.mk ((by rw [hg]; exact (below_size (by repeat (first | (with_reducible first | exact HB.out | apply below_alloc | apply pw_below_drewN | apply below_drew1) | exact HB.out))) : w.heap.size ≤ gb176)); have n3_ := Aside0.mk ((by rw [hg]; exact (below_size (by repeat (first | (with_reducible first | exact HB.out | apply below_alloc | apply pw_below_drewN | apply below_drew1) | exact HB.out))) : w.heap.size ≤ gb176)); clear HB; have HB := n0_; have BK176 := n1_; have GW176 := n2_; have GE176 := n3_; clear n0_ n1_ n2_ n3_; clear hb hbox hg; have hcz9_0 : w8.cell? ⟨gb176, 0, none⟩ = some (.slice A0 l0.length c0) := (blk_cell BK176.out 0).trans rfl; have hfz9_0 := blk_frozen BK176.out 0) | ((with_reducible refine gate_dst (N := 4) rfl ?_); refine box_event ?hg (N := 4) ?hd (cs := #[.int .i64 0]) (t := 3) ?hr ?_; (case hd => rfl); (case hg => rfl); (case hr => first | (go_simp; done) | (go_simp; rfl)); intro gb177 hg w10 hbox hb; have n0_ := Aside0.mk (blk_below (g := gb176) (o := .cells #[.slice A0 l0.length c0] 22 (0, 0)) (by (with_reducible repeat (first | refine blk_drewN ?_ _ | refine blk_drew ?_ | refine blk_alloc ?_ _)); exact BK176.out) hb); have n1_ := Aside0.mk (below_step (by repeat (first | (with_reducible first | exact HB.out | apply below_alloc | apply pw_below_drewN | apply below_drew1 | refine below_set ?_ GE176.out) | exact HB.out)) hb); have n2_ := Aside0.mk (hbox); have n3_ := Aside0.mk ((by rw [hg]; exact (below_size (by repeat (first | (with_reducible first | exact HB.out | apply below_alloc | apply pw_below_drewN | apply below_drew1 | refine below_set ?_ GE176.out) | exact HB.out))) : w.heap.size ≤ gb177)); have n4_ := Aside0.mk ((by rw [hg]; exact (below_size (by repeat (first | (with_reducible first | exact HB.out | apply below_alloc | apply pw_below_drewN | apply below_drew1 | refine below_set ?_ GE176.out) | exact HB.out))) : w.heap.size ≤ gb177)); have n5_ := Aside0.mk ((by rw [hg]; exact Nat.ne_of_lt (blk_lt (g := gb176) (o := .cells #[.slice A0 l0.length c0] 22 (0, 0)) (by (with_reducible repeat (first | refine blk_drewN ?_ _ | refine blk_drew ?_ | refine blk_alloc ?_ _)); exact BK176.out)) : gb176 ≠ gb177)); have n6_ := Aside0.mk ((by rw [hg]; exact Nat.ne_of_gt (blk_lt (g := gb176) (o := .cells #[.slice A0 l0.length c0] 22 (0, 0)) (by (with_reducible repeat (first | refine blk_drewN ?_ _ | refine blk_drew ?_ | refine blk_alloc ?_ _)); exact BK176.out)) : gb177 ≠ gb176)); clear BK176; clear HB; have BK176 := n0_; have HB := n1_; have BK177 := n2_; have GW177 := n3_; have GE177 := n4_; have NB176_177 := n5_; have NB177_176 := n6_; clear n0_ n1_ n2_ n3_ n4_ n5_ n6_; clear hb hbox hg; have hnb11 := NB177_176.out; have hnc11 := NB176_177.out; have hcz12_0 : w10.cell? ⟨gb177, 0, none⟩ = some (.int .i64 0) := (blk_cell BK177.out 0).trans rfl; have hfz12_0 := blk_frozen BK177.out 0; have hcz13_0 : w10.cell? ⟨gb176, 0, none⟩ = some (.slice A0 l0.length c0) := (blk_cell BK176.out 0).trans rfl; have hfz13_0 := blk_frozen BK176.out 0) | (go_at_call 16; (with_reducible refine (matrix_Check.calls k _ _ l0 t178 _ ?side1 ?side2 A2.out).mono ?_); (case side1 => exact Kd.C_below HR0.out (by repeat (first | (with_reducible first | exact HB.out | apply below_alloc | apply pw_below_drewN | apply below_drew1 | refine below_set ?_ GE176.out | refine below_set ?_ GE177.out) | exact HB.out))); (case side2 => exact HC0.out); rintro e w' ⟨rfl, ⟨nd, rfl⟩⟩; (try first | exact ⟨rfl, _, World.drewN_drewN _ _ _⟩ | exact ⟨rfl, _, Eq.trans (World.drewN_drewN _ _ _) (congrArg (World.drewN _) (Nat.add_assoc _ _ _))⟩)) | (go_at_call 36; (with_reducible refine (matrix_columns.calls _ _ l0 t179 _ ?side1 ?side2 A4.out).mono ?_); (case side1 => exact Kd.C_below HR0.out (by repeat (first | (with_reducible first | exact HB.out | apply below_alloc | apply pw_below_drewN | apply below_drew1 | refine below_set ?_ GE176.out | refine below_set ?_ GE177.out) | exact HB.out))); (case side2 => exact HC0.out); rintro e w' ⟨rfl, ⟨nd, rfl⟩⟩; (try first | exact ⟨rfl, _, World.drewN_drewN _ _ _⟩ | exact ⟨rfl, _, Eq.trans (World.drewN_drewN _ _ _) (congrArg (World.drewN _) (Nat.add_assoc _ _ _))⟩)) | (go_at_call 35; (with_reducible refine (grid_44.calls gb177 gb176 (l0.length : Int) (wrap64 (2 * (l0.length : Int))) (l0.length : Int) A0 c0 l0 t180 _ ?side1 ?side2 ?side3 ?side4 A6.out).mono ?_); (case side1 => (with_reducible repeat (first | refine blk_drewN ?_ _ | refine blk_drew ?_ | refine blk_alloc ?_ _)); refine blk_put (cs := #[.int .i64 0]) ?_ 0 _ rfl; (with_reducible repeat (first | refine blk_drewN ?_ _ | refine blk_drew ?_ | refine blk_alloc ?_ _)); exact BK177.out); (case side2 => (with_reducible repeat (first | refine blk_drewN ?_ _ | refine blk_drew ?_ | refine blk_alloc ?_ _)); refine blk_far ?_ NB176_177.out _; (with_reducible repeat (first | refine blk_drewN ?_ _ | refine blk_drew ?_ | refine blk_alloc ?_ _)); exact BK176.out); (case side3 => exact Kd.C_below HR0.out (by repeat (first | (with_reducible first | exact HB.out | apply below_alloc | apply pw_below_drewN | apply below_drew1 | refine below_set ?_ GE176.out | refine below_set ?_ GE177.out) | exact HB.out))); (case side4 => exact HC0.out); rintro e w14 ⟨v181, rfl, ho0, hb⟩; have n0_ := Aside0.mk (Kd.S_lower ho0 (below_size (by repeat (first | (with_reducible first | exact HB.out | apply below_alloc | apply pw_below_drewN | apply below_drew1 | refine below_set ?_ GE176.out | refine below_set ?_ GE177.out) | exact HB.out)))); have n1_ := Aside0.mk (blk_below (g := gb176) (o := .cells #[.slice A0 l0.length c0] 22 (0, 0)) (by (with_reducible repeat (first | refine blk_drewN ?_ _ | refine blk_drew ?_ | refine blk_alloc ?_ _)); refine blk_far ?_ NB176_177.out _; (with_reducible repeat (first | refine blk_drewN ?_ _ | refine blk_drew ?_ | refine blk_alloc ?_ _)); exact BK176.out) hb); have n2_ := Aside0.mk (blk_below (g := gb177) (o := .cells #[.int .i64 (l0.length : Int)] 3 (0, 0)) (by (with_reducible repeat (first | refine blk_drewN ?_ _ | refine blk_drew ?_ | refine blk_alloc ?_ _)); refine blk_put (cs := #[.int .i64 0]) ?_ 0 _ rfl; (with_reducible repeat (first | refine blk_drewN ?_ _ | refine blk_drew ?_ | refine blk_alloc ?_ _)); exact BK177.out) hb); have n3_ := Aside0.mk (below_step (by repeat (first | (with_reducible first | exact HB.out | apply below_alloc | apply pw_below_drewN | apply below_drew1 | refine below_set ?_ GE176.out | refine below_set ?_ GE177.out) | exact HB.out)) hb); clear BK176; clear BK177; clear HB; have HO182 := n0_; have BK176 := n1_; have BK177 := n2_; have HB := n3_; clear n0_ n1_ n2_ n3_; (try clear hb); (try clear hb2); (try clear hk); (try clear hi); (try clear ho0); obtain ⟨Ao15, co15, eo15⟩ := Kd.S_slice HO182.out; subst eo15) | (go_at_call 38; (with_reducible refine (Prt.matrix_reduce.calls k _ _ t180 t183 t184 _ ?side1 ?side2 ?side3 A7.out).mono ?_); (case side1 => first | (with_reducible exact HG.out) | (with_reducible exact HighIn.drewN HG.out _) | exact HighIn.below HG.out (by repeat (first | (with_reducible first | exact HB.out | apply below_alloc | apply pw_below_drewN | apply below_drew1 | refine below_set ?_ GE176.out | refine below_set ?_ GE177.out) | exact HB.out)) | ((repeat (first | (with_reducible exact HG.out) | (with_reducible apply HighIn.drewN) | (with_reducible apply HighIn.drew) | (with_reducible apply HighIn.alloc))); done)); (case side2 => repeat (first | exact (Kd.S_reads' HO182.out).2.2 | (with_reducible refine Kd.C_alloc ?_ _) | (with_reducible refine Kd.C_drewN ?_ _) | (with_reducible refine Kd.C_drew ?_))); (case side3 => exact (Kd.S_reads' HO182.out).2.1); rintro e w16 ⟨v185, v187, rfl, ho0, ho1, hb⟩; have n0_ := Aside0.mk (Kd.S_elder' (by (with_reducible repeat (first | apply Kd.S_alloc | apply Kd.S_drewN | apply Kd.S_drew)); exact HO182.out) (Kd.S_base ho0) hb); have n1_ := Aside0.mk (Kd.S_lower (Kd.S_new' ho0 (Kd.S_lt (by (with_reducible repeat (first | apply Kd.S_alloc | apply Kd.S_drewN | apply Kd.S_drew)); exact HO182.out))) (below_size (by repeat (first | (with_reducible first | exact HB.out | apply below_alloc | apply pw_below_drewN | apply below_drew1 | refine below_set ?_ GE176.out | refine below_set ?_ GE177.out) | exact HB.out)))); have n2_ := Aside0.mk (Kd.R_lower (Kd.R_newB ho1 (g := gb177) (o := .cells #[.int .i64 (l0.length : Int)] 3 (0, 0)) (by (with_reducible repeat (first | refine blk_drewN ?_ _ | refine blk_drew ?_ | refine blk_alloc ?_ _)); exact BK177.out)) (below_size (by repeat (first | (with_reducible first | exact HB.out | apply below_alloc | apply pw_below_drewN | apply below_drew1 | refine below_set ?_ GE176.out | refine below_set ?_ GE177.out) | exact HB.out)))); have n3_ := Aside0.mk (blk_below (g := gb176) (o := .cells #[.slice A0 l0.length c0] 22 (0, 0)) (by (with_reducible repeat (first | refine blk_drewN ?_ _ | refine blk_drew ?_ | refine blk_alloc ?_ _)); exact BK176.out) hb); have n4_ := Aside0.mk (blk_below (g := gb177) (o := .cells #[.int .i64 (l0.length : Int)] 3 (0, 0)) (by (with_reducible repeat (first | refine blk_drewN ?_ _ | refine blk_drew ?_ | refine blk_alloc ?_ _)); exact BK177.out) hb); have n5_ := Aside0.mk (below_step (by repeat (first | (with_reducible first | exact HB.out | apply below_alloc | apply pw_below_drewN | apply below_drew1 | refine below_set ?_ GE176.out | refine below_set ?_ GE177.out) | exact HB.out)) hb); clear HO182; clear BK176; clear BK177; clear HB; have HO182 := n0_; have HO186 := n1_; have HO188 := n2_; have BK176 := n3_; have BK177 := n4_; have HB := n5_; clear n0_ n1_ n2_ n3_ n4_ n5_; (try clear hb); (try clear hb2); (try clear hk); (try clear hi); (try clear ho0); (try clear ho1)) | ((with_reducible refine gate_dst (N := 6) rfl ?_); refine box_event ?hg (N := 6) ?hd (cs := #[.slice none 0 0]) (t := 22) ?hr ?_; (case hd => rfl); (case hg => rfl); (case hr => first | (go_simp; done) | (go_simp; rfl)); intro gb189 hg w17 hbox hb; have n0_ := Aside0.mk (Kd.S_below (by (with_reducible repeat (first | apply Kd.S_alloc | apply Kd.S_drewN | apply Kd.S_drew)); exact HO182.out) hb); have n1_ := Aside0.mk (Kd.S_below (by (with_reducible repeat (first | apply Kd.S_alloc | apply Kd.S_drewN | apply Kd.S_drew)); exact HO186.out) hb); have n2_ := Aside0.mk (Kd.R_below (by (with_reducible repeat (first | apply Kd.R_alloc | apply Kd.R_drewN | apply Kd.R_drew)); exact HO188.out) hb); have n3_ := Aside0.mk (blk_below (g := gb176) (o := .cells #[.slice A0 l0.length c0] 22 (0, 0)) (by (with_reducible repeat (first | refine blk_drewN ?_ _ | refine blk_drew ?_ | refine blk_alloc ?_ _)); exact BK176.out) hb); have n4_ := Aside0.mk (blk_below (g := gb177) (o := .cells #[.int .i64 (l0.length : Int)] 3 (0, 0)) (by (with_reducible repeat (first | refine blk_drewN ?_ _ | refine blk_drew ?_ | refine blk_alloc ?_ _)); exact BK177.out) hb); have n5_ := Aside0.mk (below_step (by repeat (first | (with_reducible first | exact HB.out | apply below_alloc | apply pw_below_drewN | apply below_drew1 | refine below_set ?_ GE176.out | refine below_set ?_ GE177.out) | exact HB.out)) hb); have n6_ := Aside0.mk (hbox); have n7_ := Aside0.mk ((by rw [hg]; exact (below_size (by repeat (first | (with_reducible first | exact HB.out | apply below_alloc | apply pw_below_drewN | apply below_drew1 | refine below_set ?_ GE176.out | refine below_set ?_ GE177.out) | exact HB.out))) : w.heap.size ≤ gb189)); have n8_ := Aside0.mk ((by rw [hg]; exact (below_size (by repeat (first | (with_reducible first | exact HB.out | apply below_alloc | apply pw_below_drewN | apply below_drew1 | refine below_set ?_ GE176.out | refine below_set ?_ GE177.out) | exact HB.out))) : w.heap.size ≤ gb189)); have n9_ := Aside0.mk ((by rw [hg]; exact Nat.ne_of_lt (blk_lt (g := gb176) (o := .cells #[.slice A0 l0.length c0] 22 (0, 0)) (by (with_reducible repeat (first | refine blk_drewN ?_ _ | refine blk_drew ?_ | refine blk_alloc ?_ _)); exact BK176.out)) : gb176 ≠ gb189)); have n10_ := Aside0.mk ((by rw [hg]; exact Nat.ne_of_gt (blk_lt (g := gb176) (o := .cells #[.slice A0 l0.length c0] 22 (0, 0)) (by (with_reducible repeat (first | refine blk_drewN ?_ _ | refine blk_drew ?_ | refine blk_alloc ?_ _)); exact BK176.out)) : gb189 ≠ gb176)); have n11_ := Aside0.mk ((by rw [hg]; exact Nat.ne_of_lt (blk_lt (g := gb177) (o := .cells #[.int .i64 (l0.length : Int)] 3 (0, 0)) (by (with_reducible repeat (first | refine blk_drewN ?_ _ | refine blk_drew ?_ | refine blk_alloc ?_ _)); exact BK177.out)) : gb177 ≠ gb189)); have n12_ := Aside0.mk ((by rw [hg]; exact Nat.ne_of_gt (blk_lt (g := gb177) (o := .cells #[.int .i64 (l0.length : Int)] 3 (0, 0)) (by (with_reducible repeat (first | refine blk_drewN ?_ _ | refine blk_drew ?_ | refine blk_alloc ?_ _)); exact BK177.out)) : gb189 ≠ gb177)); clear HO182; clear HO186; clear HO188; clear BK176; clear BK177; clear HB; have HO182 := n0_; have HO186 := n1_; have HO188 := n2_; have BK176 := n3_; have BK177 := n4_; have HB := n5_; have BK189 := n6_; have GW189 := n7_; have GE189 := n8_; have NB176_189 := n9_; have NB189_176 := n10_; have NB177_189 := n11_; have NB189_177 := n12_; clear n0_ n1_ n2_ n3_ n4_ n5_ n6_ n7_ n8_ n9_ n10_ n11_ n12_; clear hb hbox hg; obtain ⟨Ao18, co18, eo18⟩ := Kd.S_slice HO186.out; subst eo18; have hnb19 := NB189_176.out; have hnc19 := NB176_189.out; have hnb20 := NB189_177.out; have hnc20 := NB177_189.out; have hcz21_0 : w17.cell? ⟨gb189, 0, none⟩ = some (.slice none 0 0) := (blk_cell BK189.out 0).trans rfl; have hfz21_0 := blk_frozen BK189.out 0; obtain ⟨Ao22, co22, eo22⟩ := Kd.R_slice HO188.out; subst eo22))
   repeat (go_quiet (first | ((with_reducible refine gate_dst (N := 1) rfl ?_); refine box_event ?hg (N := 1) ?hd (cs := #[.slice A0 l0.length c0]) (t := 22) ?hr ?_; (case hd => rfl); (case hg => rfl); (case hr => first | (go_simp; done) | (go_simp; rfl)); intro gb176 hg w8 hbox hb; have n0_ := Aside0.mk (below_step (by repeat (first | (with_reducible first | exact HB.out | apply below_alloc | apply pw_below_drewN | apply below_drew1) | exact HB.out)) hb); have n1_ := Aside0.mk (hbox); have n2_ := Aside0.mk ((by rw [hg]; exact (below_size (by repeat (first | (with_reducible first | exact HB.out | apply below_alloc | apply pw_below_drewN | apply below_drew1) | exact HB.out))) : w.heap.size ≤ gb176)); have n3_ := Aside0.mk ((by rw [hg]; exact (below_size (by repeat (first | (with_reducible first | exact HB.out | apply below_alloc | apply pw_below_drewN | apply below_drew1) | exact HB.out))) : w.heap.size ≤ gb176)); clear HB; have HB := n0_; have BK176 := n1_; have GW176 := n2_; have GE176 := n3_; clear n0_ n1_ n2_ n3_; clear hb hbox hg; have hcz9_0 : w8.cell? ⟨gb176, 0, none⟩ = some (.slice A0 l0.length c0) := (blk_cell BK176.out 0).trans rfl; have hfz9_0 := blk_frozen BK176.out 0) | ((with_reducible refine gate_dst (N := 4) rfl ?_); refine box_event ?hg (N := 4) ?hd (cs := #[.int .i64 0]) (t := 3) ?hr ?_; (case hd => rfl); (case hg => rfl); (case hr => first | (go_simp; done) | (go_simp; rfl)); intro gb177 hg w10 hbox hb; have n0_ := Aside0.mk (blk_below (g := gb176) (o := .cells #[.slice A0 l0.length c0] 22 (0, 0)) (by (with_reducible repeat (first | refine blk_drewN ?_ _ | refine blk_drew ?_ | refine blk_alloc ?_ _)); exact BK176.out) hb); have n1_ := Aside0.mk (below_step (by repeat (first | (with_reducible first | exact HB.out | apply below_alloc | apply pw_below_drewN | apply below_drew1 | refine below_set ?_ GE176.out) | exact HB.out)) hb); have n2_ := Aside0.mk (hbox); have n3_ := Aside0.mk ((by rw [hg]; exact (below_size (by repeat (first | (with_reducible first | exact HB.out | apply below_alloc | apply pw_below_drewN | apply below_drew1 | refine below_set ?_ GE176.out) | exact HB.out))) : w.heap.size ≤ gb177)); have n4_ := Aside0.mk ((by rw [hg]; exact (below_size (by repeat (first | (with_reducible first | exact HB.out | apply below_alloc | apply pw_below_drewN | apply below_drew1 | refine below_set ?_ GE176.out) | exact HB.out))) : w.heap.size ≤ gb177)); have n5_ := Aside0.mk ((by rw [hg]; exact Nat.ne_of_lt (blk_lt (g := gb176) (o := .cells #[.slice A0 l0.length c0] 22 (0, 0)) (by (with_reducible repeat (first | refine blk_drewN ?_ _ | refine blk_drew ?_ | refine blk_alloc ?_ _)); exact BK176.out)) : gb176 ≠ gb177)); have n6_ := Aside0.mk ((by rw [hg]; exact Nat.ne_of_gt (blk_lt (g := gb176) (o := .cells #[.slice A0 l0.length c0] 22 (0, 0)) (by (with_reducible repeat (first | refine blk_drewN ?_ _ | refine blk_drew ?_ | refine blk_alloc ?_ _)); exact BK176.out)) : gb177 ≠ gb176)); clear BK176; clear HB; have BK176 := n0_; have HB := n1_; have BK177 := n2_; have GW177 := n3_; have GE177 := n4_; have NB176_177 := n5_; have NB177_176 := n6_; clear n0_ n1_ n2_ n3_ n4_ n5_ n6_; clear hb hbox hg; have hnb11 := NB177_176.out; have hnc11 := NB176_177.out; have hcz12_0 : w10.cell? ⟨gb177, 0, none⟩ = some (.int .i64 0) := (blk_cell BK177.out 0).trans rfl; have hfz12_0 := blk_frozen BK177.out 0; have hcz13_0 : w10.cell? ⟨gb176, 0, none⟩ = some (.slice A0 l0.length c0) := (blk_cell BK176.out 0).trans rfl; have hfz13_0 := blk_frozen BK176.out 0) | (go_at_call 16; (with_reducible refine (matrix_Check.calls k _ _ l0 t178 _ ?side1 ?side2 A2.out).mono ?_); (case side1 => exact Kd.C_below HR0.out (by repeat (first | (with_reducible first | exact HB.out | apply below_alloc | apply pw_below_drewN | apply below_drew1 | refine below_set ?_ GE176.out | refine below_set ?_ GE177.out) | exact HB.out))); (case side2 => exact HC0.out); rintro e w' ⟨rfl, ⟨nd, rfl⟩⟩; (try first | exact ⟨rfl, _, World.drewN_drewN _ _ _⟩ | exact ⟨rfl, _, Eq.trans (World.drewN_drewN _ _ _) (congrArg (World.drewN _) (Nat.add_assoc _ _ _))⟩)) | (go_at_call 36; (with_reducible refine (matrix_columns.calls _ _ l0 t179 _ ?side1 ?side2 A4.out).mono ?_); (case side1 => exact Kd.C_below HR0.out (by repeat (first | (with_reducible first | exact HB.out | apply below_alloc | apply pw_below_drewN | apply below_drew1 | refine below_set ?_ GE176.out | refine below_set ?_ GE177.out) | exact HB.out))); (case side2 => exact HC0.out); rintro e w' ⟨rfl, ⟨nd, rfl⟩⟩; (try first | exact ⟨rfl, _, World.drewN_drewN _ _ _⟩ | exact ⟨rfl, _, Eq.trans (World.drewN_drewN _ _ _) (congrArg (World.drewN _) (Nat.add_assoc _ _ _))⟩)) | (go_at_call 35; (with_reducible refine (grid_44.calls gb177 gb176 (l0.length : Int) (wrap64 (2 * (l0.length : Int))) (l0.length : Int) A0 c0 l0 t180 _ ?side1 ?side2 ?side3 ?side4 A6.out).mono ?_); (case side1 => (with_reducible repeat (first | refine blk_drewN ?_ _ | refine blk_drew ?_ | refine blk_alloc ?_ _)); refine blk_put (cs := #[.int .i64 0]) ?_ 0 _ rfl; (with_reducible repeat (first | refine blk_drewN ?_ _ | refine blk_drew ?_ | refine blk_alloc ?_ _)); exact BK177.out); (case side2 => (with_reducible repeat (first | refine blk_drewN ?_ _ | refine blk_drew ?_ | refine blk_alloc ?_ _)); refine blk_far ?_ NB176_177.out _; (with_reducible repeat (first | refine blk_drewN ?_ _ | refine blk_drew ?_ | refine blk_alloc ?_ _)); exact BK176.out); (case side3 => exact Kd.C_below HR0.out (by repeat (first | (with_reducible first | exact HB.out | apply below_alloc | apply pw_below_drewN | apply below_drew1 | refine below_set ?_ GE176.out | refine below_set ?_ GE177.out) | exact HB.out))); (case side4 => exact HC0.out); rintro e w14 ⟨v181, rfl, ho0, hb⟩; have n0_ := Aside0.mk (Kd.S_lower ho0 (below_size (by repeat (first | (with_reducible first | exact HB.out | apply below_alloc | apply pw_below_drewN | apply below_drew1 | refine below_set ?_ GE176.out | refine below_set ?_ GE177.out) | exact HB.out)))); have n1_ := Aside0.mk (blk_below (g := gb176) (o := .cells #[.slice A0 l0.length c0] 22 (0, 0)) (by (with_reducible repeat (first | refine blk_drewN ?_ _ | refine blk_drew ?_ | refine blk_alloc ?_ _)); refine blk_far ?_ NB176_177.out _; (with_reducible repeat (first | refine blk_drewN ?_ _ | refine blk_drew ?_ | refine blk_alloc ?_ _)); exact BK176.out) hb); have n2_ := Aside0.mk (blk_below (g := gb177) (o := .cells #[.int .i64 (l0.length : Int)] 3 (0, 0)) (by (with_reducible repeat (first | refine blk_drewN ?_ _ | refine blk_drew ?_ | refine blk_alloc ?_ _)); refine blk_put (cs := #[.int .i64 0]) ?_ 0 _ rfl; (with_reducible repeat (first | refine blk_drewN ?_ _ | refine blk_drew ?_ | refine blk_alloc ?_ _)); exact BK177.out) hb); have n3_ := Aside0.mk (below_step (by repeat (first | (with_reducible first | exact HB.out | apply below_alloc | apply pw_below_drewN | apply below_drew1 | refine below_set ?_ GE176.out | refine below_set ?_ GE177.out) | exact HB.out)) hb); clear BK176; clear BK177; clear HB; have HO182 := n0_; have BK176 := n1_; have BK177 := n2_; have HB := n3_; clear n0_ n1_ n2_ n3_; (try clear hb); (try clear hb2); (try clear hk); (try clear hi); (try clear ho0); obtain ⟨Ao15, co15, eo15⟩ := Kd.S_slice HO182.out; subst eo15) | (go_at_call 38; (with_reducible refine (Prt.matrix_reduce.calls k _ _ t180 t183 t184 _ ?side1 ?side2 ?side3 A7.out).mono ?_); (case side1 => first | (with_reducible exact HG.out) | (with_reducible exact HighIn.drewN HG.out _) | exact HighIn.below HG.out (by repeat (first | (with_reducible first | exact HB.out | apply below_alloc | apply pw_below_drewN | apply below_drew1 | refine below_set ?_ GE176.out | refine below_set ?_ GE177.out) | exact HB.out)) | ((repeat (first | (with_reducible exact HG.out) | (with_reducible apply HighIn.drewN) | (with_reducible apply HighIn.drew) | (with_reducible apply HighIn.alloc))); done)); (case side2 => repeat (first | exact (Kd.S_reads' HO182.out).2.2 | (with_reducible refine Kd.C_alloc ?_ _) | (with_reducible refine Kd.C_drewN ?_ _) | (with_reducible refine Kd.C_drew ?_))); (case side3 => exact (Kd.S_reads' HO182.out).2.1); rintro e w16 ⟨v185, v187, rfl, ho0, ho1, hb⟩; have n0_ := Aside0.mk (Kd.S_elder' (by (with_reducible repeat (first | apply Kd.S_alloc | apply Kd.S_drewN | apply Kd.S_drew)); exact HO182.out) (Kd.S_base ho0) hb); have n1_ := Aside0.mk (Kd.S_lower (Kd.S_new' ho0 (Kd.S_lt (by (with_reducible repeat (first | apply Kd.S_alloc | apply Kd.S_drewN | apply Kd.S_drew)); exact HO182.out))) (below_size (by repeat (first | (with_reducible first | exact HB.out | apply below_alloc | apply pw_below_drewN | apply below_drew1 | refine below_set ?_ GE176.out | refine below_set ?_ GE177.out) | exact HB.out)))); have n2_ := Aside0.mk (Kd.R_lower (Kd.R_newB ho1 (g := gb177) (o := .cells #[.int .i64 (l0.length : Int)] 3 (0, 0)) (by (with_reducible repeat (first | refine blk_drewN ?_ _ | refine blk_drew ?_ | refine blk_alloc ?_ _)); exact BK177.out)) (below_size (by repeat (first | (with_reducible first | exact HB.out | apply below_alloc | apply pw_below_drewN | apply below_drew1 | refine below_set ?_ GE176.out | refine below_set ?_ GE177.out) | exact HB.out)))); have n3_ := Aside0.mk (blk_below (g := gb176) (o := .cells #[.slice A0 l0.length c0] 22 (0, 0)) (by (with_reducible repeat (first | refine blk_drewN ?_ _ | refine blk_drew ?_ | refine blk_alloc ?_ _)); exact BK176.out) hb); have n4_ := Aside0.mk (blk_below (g := gb177) (o := .cells #[.int .i64 (l0.length : Int)] 3 (0, 0)) (by (with_reducible repeat (first | refine blk_drewN ?_ _ | refine blk_drew ?_ | refine blk_alloc ?_ _)); exact BK177.out) hb); have n5_ := Aside0.mk (below_step (by repeat (first | (with_reducible first | exact HB.out | apply below_alloc | apply pw_below_drewN | apply below_drew1 | refine below_set ?_ GE176.out | refine below_set ?_ GE177.out) | exact HB.out)) hb); clear HO182; clear BK176; clear BK177; clear HB; have HO182 := n0_; have HO186 := n1_; have HO188 := n2_; have BK176 := n3_; have BK177 := n4_; have HB := n5_; clear n0_ n1_ n2_ n3_ n4_ n5_; (try clear hb); (try clear hb2); (try clear hk); (try clear hi); (try clear ho0); (try clear ho1)) | ((with_reducible refine gate_dst (N := 6) rfl ?_); refine box_event ?hg (N := 6) ?hd (cs := #[.slice none 0 0]) (t := 22) ?hr ?_; (case hd => rfl); (case hg => rfl); (case hr => first | (go_simp; done) | (go_simp; rfl)); intro gb189 hg w17 hbox hb; have n0_ := Aside0.mk (Kd.S_below (by (with_reducible repeat (first | apply Kd.S_alloc | apply Kd.S_drewN | apply Kd.S_drew)); exact HO182.out) hb); have n1_ := Aside0.mk (Kd.S_below (by (with_reducible repeat (first | apply Kd.S_alloc | apply Kd.S_drewN | apply Kd.S_drew)); exact HO186.out) hb); have n2_ := Aside0.mk (Kd.R_below (by (with_reducible repeat (first | apply Kd.R_alloc | apply Kd.R_drewN | apply Kd.R_drew)); exact HO188.out) hb); have n3_ := Aside0.mk (blk_below (g := gb176) (o := .cells #[.slice A0 l0.length c0] 22 (0, 0)) (by (with_reducible repeat (first | refine blk_drewN ?_ _ | refine blk_drew ?_ | refine blk_alloc ?_ _)); exact BK176.out) hb); have n4_ := Aside0.mk (blk_below (g := gb177) (o := .cells #[.int .i64 (l0.length : Int)] 3 (0, 0)) (by (with_reducible repeat (first | refine blk_drewN ?_ _ | refine blk_drew ?_ | refine blk_alloc ?_ _)); exact BK177.out) hb); have n5_ := Aside0.mk (below_step (by repeat (first | (with_reducible first | exact HB.out | apply below_alloc | apply pw_below_drewN | apply below_drew1 | refine below_set ?_ GE176.out | refine below_set ?_ GE177.out) | exact HB.out)) hb); have n6_ := Aside0.mk (hbox); have n7_ := Aside0.mk ((by rw [hg]; exact (below_size (by repeat (first | (with_reducible first | exact HB.out | apply below_alloc | apply pw_below_drewN | apply below_drew1 | refine below_set ?_ GE176.out | refine below_set ?_ GE177.out) | exact HB.out))) : w.heap.size ≤ gb189)); have n8_ := Aside0.mk ((by rw [hg]; exact (below_size (by repeat (first | (with_reducible first | exact HB.out | apply below_alloc | apply pw_below_drewN | apply below_drew1 | refine below_set ?_ GE176.out | refine below_set ?_ GE177.out) | exact HB.out))) : w.heap.size ≤ gb189)); have n9_ := Aside0.mk ((by rw [hg]; exact Nat.ne_of_lt (blk_lt (g := gb176) (o := .cells #[.slice A0 l0.length c0] 22 (0, 0)) (by (with_reducible repeat (first | refine blk_drewN ?_ _ | refine blk_drew ?_ | refine blk_alloc ?_ _)); exact BK176.out)) : gb176 ≠ gb189)); have n10_ := Aside0.mk ((by rw [hg]; exact Nat.ne_of_gt (blk_lt (g := gb176) (o := .cells #[.slice A0 l0.length c0] 22 (0, 0)) (by (with_reducible repeat (first | refine blk_drewN ?_ _ | refine blk_drew ?_ | refine blk_alloc ?_ _)); exact BK176.out)) : gb189 ≠ gb176)); have n11_ := Aside0.mk ((by rw [hg]; exact Nat.ne_of_lt (blk_lt (g := gb177) (o := .cells #[.int .i64 (l0.length : Int)] 3 (0, 0)) (by (with_reducible repeat (first | refine blk_drewN ?_ _ | refine blk_drew ?_ | refine blk_alloc ?_ _)); exact BK177.out)) : gb177 ≠ gb189)); have n12_ := Aside0.mk ((by rw [hg]; exact Nat.ne_of_gt (blk_lt (g := gb177) (o := .cells #[.int .i64 (l0.length : Int)] 3 (0, 0)) (by (with_reducible repeat (first | refine blk_drewN ?_ _ | refine blk_drew ?_ | refine blk_alloc ?_ _)); exact BK177.out)) : gb189 ≠ gb177)); clear HO182; clear HO186; clear HO188; clear BK176; clear BK177; clear HB; have HO182 := n0_; have HO186 := n1_; have HO188 := n2_; have BK176 := n3_; have BK177 := n4_; have HB := n5_; have BK189 := n6_; have GW189 := n7_; have GE189 := n8_; have NB176_189 := n9_; have NB189_176 := n10_; have NB177_189 := n11_; have NB189_177 := n12_; clear n0_ n1_ n2_ n3_ n4_ n5_ n6_ n7_ n8_ n9_ n10_ n11_ n12_; clear hb hbox hg; obtain ⟨Ao18, co18, eo18⟩ := Kd.S_slice HO186.out; subst eo18; have hnb19 := NB189_176.out; have hnc19 := NB176_189.out; have hnb20 := NB189_177.out; have hnc20 := NB177_189.out; have hcz21_0 : w17.cell? ⟨gb189, 0, none⟩ = some (.slice none 0 0) := (blk_cell BK189.out 0).trans rfl; have hfz21_0 := blk_frozen BK189.out 0; obtain ⟨Ao22, co22, eo22⟩ := Kd.R_slice HO188.out; subst eo22)); try go_wp2_with (first | ((with_reducible refine gate_dst (N := 1) rfl ?_); refine box_event ?hg (N := 1) ?hd (cs := #[.slice A0 l0.length c0]) (t := 22) ?hr ?_; (case hd => rfl); (case hg => rfl); (case hr => first | (go_simp; done) | (go_simp; rfl)); intro gb176 hg w8 hbox hb; have n0_ := Aside0.mk (below_step (by repeat (first | (with_reducible first | exact HB.out | apply below_alloc | apply pw_below_drewN | apply below_drew1) | exact HB.out)) hb); have n1_ := Aside0.mk (hbox); have n2_ := Aside0.mk ((by rw [hg]; exact (below_size (by repeat (first | (with_reducible first | exact HB.out | apply below_alloc | apply pw_below_drewN | apply below_drew1) | exact HB.out))) : w.heap.size ≤ gb176)); have n3_ := Aside0.mk ((by rw [hg]; exact (below_size (by repeat (first | (with_reducible first | exact HB.out | apply below_alloc | apply pw_below_drewN | apply below_drew1) | exact HB.out))) : w.heap.size ≤ gb176)); clear HB; have HB := n0_; have BK176 := n1_; have GW176 := n2_; have GE176 := n3_; clear n0_ n1_ n2_ n3_; clear hb hbox hg; have hcz9_0 : w8.cell? ⟨gb176, 0, none⟩ = some (.slice A0 l0.length c0) := (blk_cell BK176.out 0).trans rfl; have hfz9_0 := blk_frozen BK176.out 0) | ((with_reducible refine gate_dst (N := 4) rfl ?_); refine box_event ?hg (N := 4) ?hd (cs := #[.int .i64 0]) (t := 3) ?hr ?_; (case hd => rfl); (case hg => rfl); (case hr => first | (go_simp; done) | (go_simp; rfl)); intro gb177 hg w10 hbox hb; have n0_ := Aside0.mk (blk_below (g := gb176) (o := .cells #[.slice A0 l0.length c0] 22 (0, 0)) (by (with_reducible repeat (first | refine blk_drewN ?_ _ | refine blk_drew ?_ | refine blk_alloc ?_ _)); exact BK176.out) hb); have n1_ := Aside0.mk (below_step (by repeat (first | (with_reducible first | exact HB.out | apply below_alloc | apply pw_below_drewN | apply below_drew1 | refine below_set ?_ GE176.out) | exact HB.out)) hb); have n2_ := Aside0.mk (hbox); have n3_ := Aside0.mk ((by rw [hg]; exact (below_size (by repeat (first | (with_reducible first | exact HB.out | apply below_alloc | apply pw_below_drewN | apply below_drew1 | refine below_set ?_ GE176.out) | exact HB.out))) : w.heap.size ≤ gb177)); have n4_ := Aside0.mk ((by rw [hg]; exact (below_size (by repeat (first | (with_reducible first | exact HB.out | apply below_alloc | apply pw_below_drewN | apply below_drew1 | refine below_set ?_ GE176.out) | exact HB.out))) : w.heap.size ≤ gb177)); have n5_ := Aside0.mk ((by rw [hg]; exact Nat.ne_of_lt (blk_lt (g := gb176) (o := .cells #[.slice A0 l0.length c0] 22 (0, 0)) (by (with_reducible repeat (first | refine blk_drewN ?_ _ | refine blk_drew ?_ | refine blk_alloc ?_ _)); exact BK176.out)) : gb176 ≠ gb177)); have n6_ := Aside0.mk ((by rw [hg]; exact Nat.ne_of_gt (blk_lt (g := gb176) (o := .cells #[.slice A0 l0.length c0] 22 (0, 0)) (by (with_reducible repeat (first | refine blk_drewN ?_ _ | refine blk_drew ?_ | refine blk_alloc ?_ _)); exact BK176.out)) : gb177 ≠ gb176)); clear BK176; clear HB; have BK176 := n0_; have HB := n1_; have BK177 := n2_; have GW177 := n3_; have GE177 := n4_; have NB176_177 := n5_; have NB177_176 := n6_; clear n0_ n1_ n2_ n3_ n4_ n5_ n6_; clear hb hbox hg; have hnb11 := NB177_176.out; have hnc11 := NB176_177.out; have hcz12_0 : w10.cell? ⟨gb177, 0, none⟩ = some (.int .i64 0) := (blk_cell BK177.out 0).trans rfl; have hfz12_0 := blk_frozen BK177.out 0; have hcz13_0 : w10.cell? ⟨gb176, 0, none⟩ = some (.slice A0 l0.length c0) := (blk_cell BK176.out 0).trans rfl; have hfz13_0 := blk_frozen BK176.out 0) | (go_at_call 16; (with_reducible refine (matrix_Check.calls k _ _ l0 t178 _ ?side1 ?side2 A2.out).mono ?_); (case side1 => exact Kd.C_below HR0.out (by repeat (first | (with_reducible first | exact HB.out | apply below_alloc | apply pw_below_drewN | apply below_drew1 | refine below_set ?_ GE176.out | refine below_set ?_ GE177.out) | exact HB.out))); (case side2 => exact HC0.out); rintro e w' ⟨rfl, ⟨nd, rfl⟩⟩; (try first | exact ⟨rfl, _, World.drewN_drewN _ _ _⟩ | exact ⟨rfl, _, Eq.trans (World.drewN_drewN _ _ _) (congrArg (World.drewN _) (Nat.add_assoc _ _ _))⟩)) | (go_at_call 36; (with_reducible refine (matrix_columns.calls _ _ l0 t179 _ ?side1 ?side2 A4.out).mono ?_); (case side1 => exact Kd.C_below HR0.out (by repeat (first | (with_reducible first | exact HB.out | apply below_alloc | apply pw_below_drewN | apply below_drew1 | refine below_set ?_ GE176.out | refine below_set ?_ GE177.out) | exact HB.out))); (case side2 => exact HC0.out); rintro e w' ⟨rfl, ⟨nd, rfl⟩⟩; (try first | exact ⟨rfl, _, World.drewN_drewN _ _ _⟩ | exact ⟨rfl, _, Eq.trans (World.drewN_drewN _ _ _) (congrArg (World.drewN _) (Nat.add_assoc _ _ _))⟩)) | (go_at_call 35; (with_reducible refine (grid_44.calls gb177 gb176 (l0.length : Int) (wrap64 (2 * (l0.length : Int))) (l0.length : Int) A0 c0 l0 t180 _ ?side1 ?side2 ?side3 ?side4 A6.out).mono ?_); (case side1 => (with_reducible repeat (first | refine blk_drewN ?_ _ | refine blk_drew ?_ | refine blk_alloc ?_ _)); refine blk_put (cs := #[.int .i64 0]) ?_ 0 _ rfl; (with_reducible repeat (first | refine blk_drewN ?_ _ | refine blk_drew ?_ | refine blk_alloc ?_ _)); exact BK177.out); (case side2 => (with_reducible repeat (first | refine blk_drewN ?_ _ | refine blk_drew ?_ | refine blk_alloc ?_ _)); refine blk_far ?_ NB176_177.out _; (with_reducible repeat (first | refine blk_drewN ?_ _ | refine blk_drew ?_ | refine blk_alloc ?_ _)); exact BK176.out); (case side3 => exact Kd.C_below HR0.out (by repeat (first | (with_reducible first | exact HB.out | apply below_alloc | apply pw_below_drewN | apply below_drew1 | refine below_set ?_ GE176.out | refine below_set ?_ GE177.out) | exact HB.out))); (case side4 => exact HC0.out); rintro e w14 ⟨v181, rfl, ho0, hb⟩; have n0_ := Aside0.mk (Kd.S_lower ho0 (below_size (by repeat (first | (with_reducible first | exact HB.out | apply below_alloc | apply pw_below_drewN | apply below_drew1 | refine below_set ?_ GE176.out | refine below_set ?_ GE177.out) | exact HB.out)))); have n1_ := Aside0.mk (blk_below (g := gb176) (o := .cells #[.slice A0 l0.length c0] 22 (0, 0)) (by (with_reducible repeat (first | refine blk_drewN ?_ _ | refine blk_drew ?_ | refine blk_alloc ?_ _)); refine blk_far ?_ NB176_177.out _; (with_reducible repeat (first | refine blk_drewN ?_ _ | refine blk_drew ?_ | refine blk_alloc ?_ _)); exact BK176.out) hb); have n2_ := Aside0.mk (blk_below (g := gb177) (o := .cells #[.int .i64 (l0.length : Int)] 3 (0, 0)) (by (with_reducible repeat (first | refine blk_drewN ?_ _ | refine blk_drew ?_ | refine blk_alloc ?_ _)); refine blk_put (cs := #[.int .i64 0]) ?_ 0 _ rfl; (with_reducible repeat (first | refine blk_drewN ?_ _ | refine blk_drew ?_ | refine blk_alloc ?_ _)); exact BK177.out) hb); have n3_ := Aside0.mk (below_step (by repeat (first | (with_reducible first | exact HB.out | apply below_alloc | apply pw_below_drewN | apply below_drew1 | refine below_set ?_ GE176.out | refine below_set ?_ GE177.out) | exact HB.out)) hb); clear BK176; clear BK177; clear HB; have HO182 := n0_; have BK176 := n1_; have BK177 := n2_; have HB := n3_; clear n0_ n1_ n2_ n3_; (try clear hb); (try clear hb2); (try clear hk); (try clear hi); (try clear ho0); obtain ⟨Ao15, co15, eo15⟩ := Kd.S_slice HO182.out; subst eo15) | (go_at_call 38; (with_reducible refine (Prt.matrix_reduce.calls k _ _ t180 t183 t184 _ ?side1 ?side2 ?side3 A7.out).mono ?_); (case side1 => first | (with_reducible exact HG.out) | (with_reducible exact HighIn.drewN HG.out _) | exact HighIn.below HG.out (by repeat (first | (with_reducible first | exact HB.out | apply below_alloc | apply pw_below_drewN | apply below_drew1 | refine below_set ?_ GE176.out | refine below_set ?_ GE177.out) | exact HB.out)) | ((repeat (first | (with_reducible exact HG.out) | (with_reducible apply HighIn.drewN) | (with_reducible apply HighIn.drew) | (with_reducible apply HighIn.alloc))); done)); (case side2 => repeat (first | exact (Kd.S_reads' HO182.out).2.2 | (with_reducible refine Kd.C_alloc ?_ _) | (with_reducible refine Kd.C_drewN ?_ _) | (with_reducible refine Kd.C_drew ?_))); (case side3 => exact (Kd.S_reads' HO182.out).2.1); rintro e w16 ⟨v185, v187, rfl, ho0, ho1, hb⟩; have n0_ := Aside0.mk (Kd.S_elder' (by (with_reducible repeat (first | apply Kd.S_alloc | apply Kd.S_drewN | apply Kd.S_drew)); exact HO182.out) (Kd.S_base ho0) hb); have n1_ := Aside0.mk (Kd.S_lower (Kd.S_new' ho0 (Kd.S_lt (by (with_reducible repeat (first | apply Kd.S_alloc | apply Kd.S_drewN | apply Kd.S_drew)); exact HO182.out))) (below_size (by repeat (first | (with_reducible first | exact HB.out | apply below_alloc | apply pw_below_drewN | apply below_drew1 | refine below_set ?_ GE176.out | refine below_set ?_ GE177.out) | exact HB.out)))); have n2_ := Aside0.mk (Kd.R_lower (Kd.R_newB ho1 (g := gb177) (o := .cells #[.int .i64 (l0.length : Int)] 3 (0, 0)) (by (with_reducible repeat (first | refine blk_drewN ?_ _ | refine blk_drew ?_ | refine blk_alloc ?_ _)); exact BK177.out)) (below_size (by repeat (first | (with_reducible first | exact HB.out | apply below_alloc | apply pw_below_drewN | apply below_drew1 | refine below_set ?_ GE176.out | refine below_set ?_ GE177.out) | exact HB.out)))); have n3_ := Aside0.mk (blk_below (g := gb176) (o := .cells #[.slice A0 l0.length c0] 22 (0, 0)) (by (with_reducible repeat (first | refine blk_drewN ?_ _ | refine blk_drew ?_ | refine blk_alloc ?_ _)); exact BK176.out) hb); have n4_ := Aside0.mk (blk_below (g := gb177) (o := .cells #[.int .i64 (l0.length : Int)] 3 (0, 0)) (by (with_reducible repeat (first | refine blk_drewN ?_ _ | refine blk_drew ?_ | refine blk_alloc ?_ _)); exact BK177.out) hb); have n5_ := Aside0.mk (below_step (by repeat (first | (with_reducible first | exact HB.out | apply below_alloc | apply pw_below_drewN | apply below_drew1 | refine below_set ?_ GE176.out | refine below_set ?_ GE177.out) | exact HB.out)) hb); clear HO182; clear BK176; clear BK177; clear HB; have HO182 := n0_; have HO186 := n1_; have HO188 := n2_; have BK176 := n3_; have BK177 := n4_; have HB := n5_; clear n0_ n1_ n2_ n3_ n4_ n5_; (try clear hb); (try clear hb2); (try clear hk); (try clear hi); (try clear ho0); (try clear ho1)) | ((with_reducible refine gate_dst (N := 6) rfl ?_); refine box_event ?hg (N := 6) ?hd (cs := #[.slice none 0 0]) (t := 22) ?hr ?_; (case hd => rfl); (case hg => rfl); (case hr => first | (go_simp; done) | (go_simp; rfl)); intro gb189 hg w17 hbox hb; have n0_ := Aside0.mk (Kd.S_below (by (with_reducible repeat (first | apply Kd.S_alloc | apply Kd.S_drewN | apply Kd.S_drew)); exact HO182.out) hb); have n1_ := Aside0.mk (Kd.S_below (by (with_reducible repeat (first | apply Kd.S_alloc | apply Kd.S_drewN | apply Kd.S_drew)); exact HO186.out) hb); have n2_ := Aside0.mk (Kd.R_below (by (with_reducible repeat (first | apply Kd.R_alloc | apply Kd.R_drewN | apply Kd.R_drew)); exact HO188.out) hb); have n3_ := Aside0.mk (blk_below (g := gb176) (o := .cells #[.slice A0 l0.length c0] 22 (0, 0)) (by (with_reducible repeat (first | refine blk_drewN ?_ _ | refine blk_drew ?_ | refine blk_alloc ?_ _)); exact BK176.out) hb); have n4_ := Aside0.mk (blk_below (g := gb177) (o := .cells #[.int .i64 (l0.length : Int)] 3 (0, 0)) (by (with_reducible repeat (first | refine blk_drewN ?_ _ | refine blk_drew ?_ | refine blk_alloc ?_ _)); exact BK177.out) hb); have n5_ := Aside0.mk (below_step (by repeat (first | (with_reducible first | exact HB.out | apply below_alloc | apply pw_below_drewN | apply below_drew1 | refine below_set ?_ GE176.out | refine below_set ?_ GE177.out) | exact HB.out)) hb); have n6_ := Aside0.mk (hbox); have n7_ := Aside0.mk ((by rw [hg]; exact (below_size (by repeat (first | (with_reducible first | exact HB.out | apply below_alloc | apply pw_below_drewN | apply below_drew1 | refine below_set ?_ GE176.out | refine below_set ?_ GE177.out) | exact HB.out))) : w.heap.size ≤ gb189)); have n8_ := Aside0.mk ((by rw [hg]; exact (below_size (by repeat (first | (with_reducible first | exact HB.out | apply below_alloc | apply pw_below_drewN | apply below_drew1 | refine below_set ?_ GE176.out | refine below_set ?_ GE177.out) | exact HB.out))) : w.heap.size ≤ gb189)); have n9_ := Aside0.mk ((by rw [hg]; exact Nat.ne_of_lt (blk_lt (g := gb176) (o := .cells #[.slice A0 l0.length c0] 22 (0, 0)) (by (with_reducible repeat (first | refine blk_drewN ?_ _ | refine blk_drew ?_ | refine blk_alloc ?_ _)); exact BK176.out)) : gb176 ≠ gb189)); have n10_ := Aside0.mk ((by rw [hg]; exact Nat.ne_of_gt (blk_lt (g := gb176) (o := .cells #[.slice A0 l0.length c0] 22 (0, 0)) (by (with_reducible repeat (first | refine blk_drewN ?_ _ | refine blk_drew ?_ | refine blk_alloc ?_ _)); exact BK176.out)) : gb189 ≠ gb176)); have n11_ := Aside0.mk ((by rw [hg]; exact Nat.ne_of_lt (blk_lt (g := gb177) (o := .cells #[.int .i64 (l0.length : Int)] 3 (0, 0)) (by (with_reducible repeat (first | refine blk_drewN ?_ _ | refine blk_drew ?_ | refine blk_alloc ?_ _)); exact BK177.out)) : gb177 ≠ gb189)); have n12_ := Aside0.mk ((by rw [hg]; exact Nat.ne_of_gt (blk_lt (g := gb177) (o := .cells #[.int .i64 (l0.length : Int)] 3 (0, 0)) (by (with_reducible repeat (first | refine blk_drewN ?_ _ | refine blk_drew ?_ | refine blk_alloc ?_ _)); exact BK177.out)) : gb189 ≠ gb177)); clear HO182; clear HO186; clear HO188; clear BK176; clear BK177; clear HB; have HO182 := n0_; have HO186 := n1_; have HO188 := n2_; have BK176 := n3_; have BK177 := n4_; have HB := n5_; have BK189 := n6_; have GW189 := n7_; have GE189 := n8_; have NB176_189 := n9_; have NB189_176 := n10_; have NB177_189 := n11_; have NB189_177 := n12_; clear n0_ n1_ n2_ n3_ n4_ n5_ n6_ n7_ n8_ n9_ n10_ n11_ n12_; clear hb hbox hg; obtain ⟨Ao18, co18, eo18⟩ := Kd.S_slice HO186.out; subst eo18; have hnb19 := NB189_176.out; have hnc19 := NB176_189.out; have hnb20 := NB189_177.out; have hnc20 := NB177_189.out; have hcz21_0 : w17.cell? ⟨gb189, 0, none⟩ = some (.slice none 0 0) := (blk_cell BK189.out 0).trans rfl; have hfz21_0 := blk_frozen BK189.out 0; obtain ⟨Ao22, co22, eo22⟩ := Kd.R_slice HO188.out; subst eo22)))
   go_loopg [32] k (fun kq v32 w' => ∃ (x32_1 : Int), v32 = .int .i64 x32_1 ∧ Aside0 (matrix_Inverse.l0 kq t184 (t184.length : Int) x32_1 (l0.length : Int) t183 = some (r1, r2)) ∧ Aside0 (kq ≤ k) ∧ Aside0 (Kd.R (Kd.int .i64) 3 w' w.heap.size (fun k_ => k_ ≠ gb177) (.slice Ao22 t184.length co22) t184) ∧ Aside0 (Kd.S (Kd.slice 5 (Kd.int .u8)) 43 w' w.heap.size (fun _ => True) (.slice Ao18 t183.length co18) t183) ∧ Aside0 (w'.heap[gb176]? = some (.cells #[(.slice A0 l0.length c0)] 22 (0, 0))) ∧ Aside0 (w'.heap[gb177]? = some (.cells #[.int .i64 (l0.length : Int)] 3 (0, 0))) ∧ Aside0 (w'.heap[gb189]? = some (.cells #[(.slice Ao18 t183.length co18)] 22 (0, 0))) ∧ Aside0 (Below w.heap.size w w'))
   case atStart => exact ⟨(0), (by first | rfl | (simp; done) | (simp [*]; done)), H', ⟨Nat.le_refl _⟩, ⟨by (with_reducible repeat (first | apply Kd.R_alloc | apply Kd.R_drewN | apply Kd.R_drew)); exact Kd.R_mono (Kd.R_far (p := ⟨gb189, 0, none⟩) (Kd.R_types HO188.out BK189.out (by decide)) (fun _ hk => hk.2) (.slice Ao18 t183.length co18)) (fun _ hk => hk.1.2)⟩, ⟨by (with_reducible repeat (first | apply Kd.S_alloc | apply Kd.S_drewN | apply Kd.S_drew)); exact Kd.S_mono (Kd.S_far (p := ⟨gb189, 0, none⟩) (Kd.S_types HO186.out BK189.out (by decide)) (fun _ hk => hk.2) (.slice Ao18 t183.length co18)) (fun _ hk => trivial)⟩, ⟨by (with_reducible repeat (first | refine blk_drewN ?_ _ | refine blk_drew ?_ | refine blk_alloc ?_ _)); refine blk_far ?_ NB176_189.out _; (with_reducible repeat (first | refine blk_drewN ?_ _ | refine blk_drew ?_ | refine blk_alloc ?_ _)); exact BK176.out⟩, ⟨by (with_reducible repeat (first | refine blk_drewN ?_ _ | refine blk_drew ?_ | refine blk_alloc ?_ _)); refine blk_far ?_ NB177_189.out _; (with_reducible repeat (first | refine blk_drewN ?_ _ | refine blk_drew ?_ | refine blk_alloc ?_ _)); exact BK177.out⟩, ⟨by (with_reducible repeat (first | refine blk_drewN ?_ _ | refine blk_drew ?_ | refine blk_alloc ?_ _)); refine blk_put (cs := #[.slice none 0 0]) ?_ 0 _ rfl; (with_reducible repeat (first | refine blk_drewN ?_ _ | refine blk_drew ?_ | refine blk_alloc ?_ _)); exact BK189.out⟩, ⟨by repeat (first | (with_reducible first | exact HB.out | apply below_alloc | apply pw_below_drewN | apply below_drew1 | refine below_set ?_ GE176.out | refine below_set ?_ GE177.out | refine below_set ?_ GE189.out) | exact HB.out)⟩⟩
   case round =>
    clear H'
    try clear c1
    try clear c2
    try clear p2
    try clear c3
    try clear c3b0
    try clear c3b1
    try clear c5
    try clear c5b0
    try clear c5b1
    try clear p6
    try clear c11
    try clear c19
    try clear c20
    try clear hcz12_0
    try clear hcz13_0
    try clear hcz21_0
    try clear hcz9_0
    try clear hfz12_0
    try clear hfz13_0
    try clear hfz21_0
    try clear hfz9_0
    obtain ⟨x32_1, rfl, HA, HK1, HO_30, HO_190000, BK176, BK177, BK189, HB⟩ := hrel
    cases gk with
    | zero => exact absurd HA.out (by simp [matrix_Inverse.l0])
    | succ k1 =>
     have H := HA.out
     clear HA
     simp only [matrix_Inverse.l0] at H
     by_cases c23 : x32_1 < (t184.length : Int)
     ·rw [if_pos c23] at H
      have c23b0 : decide (x32_1 < (t184.length : Int)) = true := decide_eq_true c23
      clear c23
      by_cases c24 : 0 ≤ x32_1
      ·rw [if_pos c24] at H
       have c24b0 : decide (0 ≤ x32_1) = true := decide_eq_true c24
       clear c24
       by_cases c25 : x32_1 < (t184.length : Int)
       ·rw [if_pos c25] at H
        have c25b0 : decide (x32_1 < (t184.length : Int)) = true := decide_eq_true c25
        clear c25
        by_cases c26 : (rd t184 x32_1) = x32_1
        ·rw [if_pos c26] at H
         have c26b0 : ((rd t184 x32_1) == x32_1) = true := beq_iff_eq.mpr c26
         have c26b1 : ((rd t184 x32_1) != x32_1) = false := bne_eq_false_iff_eq.mpr c26
         clear c26
         have H' := Aside0.mk H
         clear H
         have p190 : 0 ≤ (x32_1 : Int) := of_decide_eq_true (by first | (with_reducible assumption) | assumption)
         have q190 : x32_1 < (t184.length : Int) := of_decide_eq_true (by first | (with_reducible assumption) | assumption)
         obtain ⟨ad190, e190, hx190_0⟩ := Kd.at_int (Kd.R_reads' HO_30.out).2.2 x32_1 p190 q190
         cases e190
         replace p190 := eq_true p190
         replace q190 := eq_true q190
         go_wp2
         repeat (go_quiet (fail); try go_wp2)
         go_roundg k1
         case measure => have := HK1.out; omega
         case rel => exact ⟨(wrap64 (x32_1 + 1)), (by first | rfl | (simp; done) | (simp [*]; done)), H', ⟨by have := HK1.out; omega⟩, ⟨by (with_reducible repeat (first | apply Kd.R_alloc | apply Kd.R_drewN | apply Kd.R_drew)); exact HO_30.out⟩, ⟨by (with_reducible repeat (first | apply Kd.S_alloc | apply Kd.S_drewN | apply Kd.S_drew)); exact HO_190000.out⟩, ⟨by (with_reducible repeat (first | refine blk_drewN ?_ _ | refine blk_drew ?_ | refine blk_alloc ?_ _)); exact BK176.out⟩, ⟨by (with_reducible repeat (first | refine blk_drewN ?_ _ | refine blk_drew ?_ | refine blk_alloc ?_ _)); exact BK177.out⟩, ⟨by (with_reducible repeat (first | refine blk_drewN ?_ _ | refine blk_drew ?_ | refine blk_alloc ?_ _)); exact BK189.out⟩, ⟨by repeat (first | (with_reducible first | exact HB.out | apply below_alloc | apply pw_below_drewN | apply below_drew1 | refine below_set ?_ GE176.out | refine below_set ?_ GE177.out | refine below_set ?_ GE189.out) | exact HB.out)⟩⟩
        ·rw [if_neg c26] at H
         have c26b0 : ((rd t184 x32_1) == x32_1) = false := beq_eq_false_iff_ne.mpr c26
         have c26b1 : ((rd t184 x32_1) != x32_1) = true := bne_iff_ne.mpr c26
         simp only [Option.some.injEq, Prod.mk.injEq] at H
         obtain ⟨rfl, rfl⟩ := H
         have p190 : 0 ≤ (x32_1 : Int) := of_decide_eq_true (by first | (with_reducible assumption) | assumption)
         have q190 : x32_1 < (t184.length : Int) := of_decide_eq_true (by first | (with_reducible assumption) | assumption)
         obtain ⟨ad190, e190, hx190_0⟩ := Kd.at_int (Kd.R_reads' HO_30.out).2.2 x32_1 p190 q190
         cases e190
         replace p190 := eq_true p190
         replace q190 := eq_true q190
         go_wp2
         repeat (go_quiet (fail); try go_wp2)
         go_ret2
         exact ⟨_, by first | rfl | (simp [errW_none, errW_some] <;> rfl) | (simp [*, errW_none, errW_some] <;> rfl), by first | exact Kd.S_nil _ _ _ _ _ | exact Kd.N_nil _ _ _ _ _ | exact Kd.V_nil _ _ _ _ _ | exact Kd.Q_nil _ _ _ _ _ | exact Kd.R_nil _ _ _ _ _, by repeat (first | (with_reducible first | exact HB.out | apply below_alloc | apply pw_below_drewN | apply below_drew1 | refine below_set ?_ GE176.out | refine below_set ?_ GE177.out | refine below_set ?_ GE189.out) | exact HB.out)⟩
       ·rw [if_neg c25] at H
        exact absurd H (by simp)
      ·rw [if_neg c24] at H
       exact absurd H (by simp)
     ·rw [if_neg c23] at H
      have c23b0 : decide (x32_1 < (t184.length : Int)) = false := decide_eq_false c23
      clear c23
      replace H := Option.bind_eq_some_iff.mp H
      obtain ⟨t191, A270, H⟩ := H
      replace H : (some (t191, 0)) = some (r1, r2) := H
      have A27 := Aside0.mk A270
      clear A270
      simp only [Option.some.injEq, Prod.mk.injEq] at H
      obtain ⟨rfl, rfl⟩ := H
      have hnb28 := NB177_176.out
      have hnc28 := NB176_177.out
      have hnb29 := NB177_189.out
      have hnc29 := NB189_177.out
      have hcz30_0 : wr.cell? ⟨gb177, 0, none⟩ = some (.int .i64 (l0.length : Int)) := (blk_cell BK177.out 0).trans rfl
      have hfz30_0 := blk_frozen BK177.out 0
      have hnb31 := NB189_176.out
      have hnc31 := NB176_189.out
      have hcz32_0 : wr.cell? ⟨gb189, 0, none⟩ = some (.slice Ao18 t183.length co18) := (blk_cell BK189.out 0).trans rfl
      have hfz32_0 := blk_frozen BK189.out 0
      go_wp2_with (first | (go_at_call 35; (with_reducible refine (grid_45.calls gb189 gb177 (l0.length : Int) (l0.length : Int) Ao18 co18 t183 (l0.length : Int) t191 _ ?side1 ?side2 ?side3 ?side4 A27.out).mono ?_); (case side1 => (with_reducible repeat (first | refine blk_drewN ?_ _ | refine blk_drew ?_ | refine blk_alloc ?_ _)); exact BK189.out); (case side2 => (with_reducible repeat (first | refine blk_drewN ?_ _ | refine blk_drew ?_ | refine blk_alloc ?_ _)); exact BK177.out); (case side3 => repeat (first | exact (Kd.S_reads' HO_190000.out).2.2 | (with_reducible refine Kd.C_alloc ?_ _) | (with_reducible refine Kd.C_drewN ?_ _) | (with_reducible refine Kd.C_drew ?_))); (case side4 => exact (Kd.S_reads' HO_190000.out).2.1); rintro e w33 ⟨v192, rfl, ho0, hb⟩; have n0_ := Aside0.mk (Kd.R_below (by (with_reducible repeat (first | apply Kd.R_alloc | apply Kd.R_drewN | apply Kd.R_drew)); exact HO_30.out) hb); have n1_ := Aside0.mk (Kd.S_elder' (by (with_reducible repeat (first | apply Kd.S_alloc | apply Kd.S_drewN | apply Kd.S_drew)); exact HO_190000.out) (Kd.S_base ho0) hb); have n2_ := Aside0.mk (Kd.S_lower (Kd.S_new' ho0 (Kd.S_lt (by (with_reducible repeat (first | apply Kd.S_alloc | apply Kd.S_drewN | apply Kd.S_drew)); exact HO_190000.out))) (below_size (by repeat (first | (with_reducible first | exact HB.out | apply below_alloc | apply pw_below_drewN | apply below_drew1 | refine below_set ?_ GE176.out | refine below_set ?_ GE177.out | refine below_set ?_ GE189.out) | exact HB.out)))); have n3_ := Aside0.mk (blk_below (g := gb176) (o := .cells #[.slice A0 l0.length c0] 22 (0, 0)) (by (with_reducible repeat (first | refine blk_drewN ?_ _ | refine blk_drew ?_ | refine blk_alloc ?_ _)); exact BK176.out) hb); have n4_ := Aside0.mk (blk_below (g := gb177) (o := .cells #[.int .i64 (l0.length : Int)] 3 (0, 0)) (by (with_reducible repeat (first | refine blk_drewN ?_ _ | refine blk_drew ?_ | refine blk_alloc ?_ _)); exact BK177.out) hb); have n5_ := Aside0.mk (blk_below (g := gb189) (o := .cells #[.slice Ao18 t183.length co18] 22 (0, 0)) (by (with_reducible repeat (first | refine blk_drewN ?_ _ | refine blk_drew ?_ | refine blk_alloc ?_ _)); exact BK189.out) hb); have n6_ := Aside0.mk (below_step (by repeat (first | (with_reducible first | exact HB.out | apply below_alloc | apply pw_below_drewN | apply below_drew1 | refine below_set ?_ GE176.out | refine below_set ?_ GE177.out | refine below_set ?_ GE189.out) | exact HB.out)) hb); clear HO_30; clear HO_190000; clear BK176; clear BK177; clear BK189; clear HB; have HO_30 := n0_; have HO_190000 := n1_; have HO193 := n2_; have BK176 := n3_; have BK177 := n4_; have BK189 := n5_; have HB := n6_; clear n0_ n1_ n2_ n3_ n4_ n5_ n6_; (try clear hb); (try clear hb2); (try clear hk); (try clear hi); (try clear ho0)))
      repeat (go_quiet (first | (go_at_call 35; (with_reducible refine (grid_45.calls gb189 gb177 (l0.length : Int) (l0.length : Int) Ao18 co18 t183 (l0.length : Int) t191 _ ?side1 ?side2 ?side3 ?side4 A27.out).mono ?_); (case side1 => (with_reducible repeat (first | refine blk_drewN ?_ _ | refine blk_drew ?_ | refine blk_alloc ?_ _)); exact BK189.out); (case side2 => (with_reducible repeat (first | refine blk_drewN ?_ _ | refine blk_drew ?_ | refine blk_alloc ?_ _)); exact BK177.out); (case side3 => repeat (first | exact (Kd.S_reads' HO_190000.out).2.2 | (with_reducible refine Kd.C_alloc ?_ _) | (with_reducible refine Kd.C_drewN ?_ _) | (with_reducible refine Kd.C_drew ?_))); (case side4 => exact (Kd.S_reads' HO_190000.out).2.1); rintro e w33 ⟨v192, rfl, ho0, hb⟩; have n0_ := Aside0.mk (Kd.R_below (by (with_reducible repeat (first | apply Kd.R_alloc | apply Kd.R_drewN | apply Kd.R_drew)); exact HO_30.out) hb); have n1_ := Aside0.mk (Kd.S_elder' (by (with_reducible repeat (first | apply Kd.S_alloc | apply Kd.S_drewN | apply Kd.S_drew)); exact HO_190000.out) (Kd.S_base ho0) hb); have n2_ := Aside0.mk (Kd.S_lower (Kd.S_new' ho0 (Kd.S_lt (by (with_reducible repeat (first | apply Kd.S_alloc | apply Kd.S_drewN | apply Kd.S_drew)); exact HO_190000.out))) (below_size (by repeat (first | (with_reducible first | exact HB.out | apply below_alloc | apply pw_below_drewN | apply below_drew1 | refine below_set ?_ GE176.out | refine below_set ?_ GE177.out | refine below_set ?_ GE189.out) | exact HB.out)))); have n3_ := Aside0.mk (blk_below (g := gb176) (o := .cells #[.slice A0 l0.length c0] 22 (0, 0)) (by (with_reducible repeat (first | refine blk_drewN ?_ _ | refine blk_drew ?_ | refine blk_alloc ?_ _)); exact BK176.out) hb); have n4_ := Aside0.mk (blk_below (g := gb177) (o := .cells #[.int .i64 (l0.length : Int)] 3 (0, 0)) (by (with_reducible repeat (first | refine blk_drewN ?_ _ | refine blk_drew ?_ | refine blk_alloc ?_ _)); exact BK177.out) hb); have n5_ := Aside0.mk (blk_below (g := gb189) (o := .cells #[.slice Ao18 t183.length co18] 22 (0, 0)) (by (with_reducible repeat (first | refine blk_drewN ?_ _ | refine blk_drew ?_ | refine blk_alloc ?_ _)); exact BK189.out) hb); have n6_ := Aside0.mk (below_step (by repeat (first | (with_reducible first | exact HB.out | apply below_alloc | apply pw_below_drewN | apply below_drew1 | refine below_set ?_ GE176.out | refine below_set ?_ GE177.out | refine below_set ?_ GE189.out) | exact HB.out)) hb); clear HO_30; clear HO_190000; clear BK176; clear BK177; clear BK189; clear HB; have HO_30 := n0_; have HO_190000 := n1_; have HO193 := n2_; have BK176 := n3_; have BK177 := n4_; have BK189 := n5_; have HB := n6_; clear n0_ n1_ n2_ n3_ n4_ n5_ n6_; (try clear hb); (try clear hb2); (try clear hk); (try clear hi); (try clear ho0))); try go_wp2_with (first | (go_at_call 35; (with_reducible refine (grid_45.calls gb189 gb177 (l0.length : Int) (l0.length : Int) Ao18 co18 t183 (l0.length : Int) t191 _ ?side1 ?side2 ?side3 ?side4 A27.out).mono ?_); (case side1 => (with_reducible repeat (first | refine blk_drewN ?_ _ | refine blk_drew ?_ | refine blk_alloc ?_ _)); exact BK189.out); (case side2 => (with_reducible repeat (first | refine blk_drewN ?_ _ | refine blk_drew ?_ | refine blk_alloc ?_ _)); exact BK177.out); (case side3 => repeat (first | exact (Kd.S_reads' HO_190000.out).2.2 | (with_reducible refine Kd.C_alloc ?_ _) | (with_reducible refine Kd.C_drewN ?_ _) | (with_reducible refine Kd.C_drew ?_))); (case side4 => exact (Kd.S_reads' HO_190000.out).2.1); rintro e w33 ⟨v192, rfl, ho0, hb⟩; have n0_ := Aside0.mk (Kd.R_below (by (with_reducible repeat (first | apply Kd.R_alloc | apply Kd.R_drewN | apply Kd.R_drew)); exact HO_30.out) hb); have n1_ := Aside0.mk (Kd.S_elder' (by (with_reducible repeat (first | apply Kd.S_alloc | apply Kd.S_drewN | apply Kd.S_drew)); exact HO_190000.out) (Kd.S_base ho0) hb); have n2_ := Aside0.mk (Kd.S_lower (Kd.S_new' ho0 (Kd.S_lt (by (with_reducible repeat (first | apply Kd.S_alloc | apply Kd.S_drewN | apply Kd.S_drew)); exact HO_190000.out))) (below_size (by repeat (first | (with_reducible first | exact HB.out | apply below_alloc | apply pw_below_drewN | apply below_drew1 | refine below_set ?_ GE176.out | refine below_set ?_ GE177.out | refine below_set ?_ GE189.out) | exact HB.out)))); have n3_ := Aside0.mk (blk_below (g := gb176) (o := .cells #[.slice A0 l0.length c0] 22 (0, 0)) (by (with_reducible repeat (first | refine blk_drewN ?_ _ | refine blk_drew ?_ | refine blk_alloc ?_ _)); exact BK176.out) hb); have n4_ := Aside0.mk (blk_below (g := gb177) (o := .cells #[.int .i64 (l0.length : Int)] 3 (0, 0)) (by (with_reducible repeat (first | refine blk_drewN ?_ _ | refine blk_drew ?_ | refine blk_alloc ?_ _)); exact BK177.out) hb); have n5_ := Aside0.mk (blk_below (g := gb189) (o := .cells #[.slice Ao18 t183.length co18] 22 (0, 0)) (by (with_reducible repeat (first | refine blk_drewN ?_ _ | refine blk_drew ?_ | refine blk_alloc ?_ _)); exact BK189.out) hb); have n6_ := Aside0.mk (below_step (by repeat (first | (with_reducible first | exact HB.out | apply below_alloc | apply pw_below_drewN | apply below_drew1 | refine below_set ?_ GE176.out | refine below_set ?_ GE177.out | refine below_set ?_ GE189.out) | exact HB.out)) hb); clear HO_30; clear HO_190000; clear BK176; clear BK177; clear BK189; clear HB; have HO_30 := n0_; have HO_190000 := n1_; have HO193 := n2_; have BK176 := n3_; have BK177 := n4_; have BK189 := n5_; have HB := n6_; clear n0_ n1_ n2_ n3_ n4_ n5_ n6_; (try clear hb); (try clear hb2); (try clear hk); (try clear hi); (try clear ho0))))
      go_ret2
      exact ⟨_, by first | rfl | (simp [errW_none, errW_some] <;> rfl) | (simp [*, errW_none, errW_some] <;> rfl), by (with_reducible repeat (first | apply Kd.S_alloc | apply Kd.S_drewN | apply Kd.S_drew)); exact Kd.S_mono HO193.out (fun _ hk => trivial), by repeat (first | (with_reducible first | exact HB.out | apply below_alloc | apply pw_below_drewN | apply below_drew1 | refine below_set ?_ GE176.out | refine below_set ?_ GE177.out | refine below_set ?_ GE189.out) | exact HB.out)⟩
  ·rw [if_neg c5] at H
   have c5b0 : (t179 == (l0.length : Int)) = false := beq_eq_false_iff_ne.mpr c5
   have c5b1 : (t179 != (l0.length : Int)) = true := bne_iff_ne.mpr c5
   simp only [Option.some.injEq, Prod.mk.injEq] at H
   obtain ⟨rfl, rfl⟩ := H
   go_enter Tryd.func23, Tryd.ntmps23
   go_wp2_with (first | ((with_reducible refine gate_dst (N := 1) rfl ?_); refine box_event ?hg (N := 1) ?hd (cs := #[.slice A0 l0.length c0]) (t := 22) ?hr ?_; (case hd => rfl); (case hg => rfl); (case hr => first | (go_simp; done) | (go_simp; rfl)); intro gb176 hg w34 hbox hb; have n0_ := Aside0.mk (below_step (by repeat (first | (with_reducible first | exact HB.out | apply below_alloc | apply pw_below_drewN | apply below_drew1) | exact HB.out)) hb); have n1_ := Aside0.mk (hbox); have n2_ := Aside0.mk ((by rw [hg]; exact (below_size (by repeat (first | (with_reducible first | exact HB.out | apply below_alloc | apply pw_below_drewN | apply below_drew1) | exact HB.out))) : w.heap.size ≤ gb176)); have n3_ := Aside0.mk ((by rw [hg]; exact (below_size (by repeat (first | (with_reducible first | exact HB.out | apply below_alloc | apply pw_below_drewN | apply below_drew1) | exact HB.out))) : w.heap.size ≤ gb176)); clear HB; have HB := n0_; have BK176 := n1_; have GW176 := n2_; have GE176 := n3_; clear n0_ n1_ n2_ n3_; clear hb hbox hg; have hcz35_0 : w34.cell? ⟨gb176, 0, none⟩ = some (.slice A0 l0.length c0) := (blk_cell BK176.out 0).trans rfl; have hfz35_0 := blk_frozen BK176.out 0) | ((with_reducible refine gate_dst (N := 4) rfl ?_); refine box_event ?hg (N := 4) ?hd (cs := #[.int .i64 0]) (t := 3) ?hr ?_; (case hd => rfl); (case hg => rfl); (case hr => first | (go_simp; done) | (go_simp; rfl)); intro gb177 hg w36 hbox hb; have n0_ := Aside0.mk (blk_below (g := gb176) (o := .cells #[.slice A0 l0.length c0] 22 (0, 0)) (by (with_reducible repeat (first | refine blk_drewN ?_ _ | refine blk_drew ?_ | refine blk_alloc ?_ _)); exact BK176.out) hb); have n1_ := Aside0.mk (below_step (by repeat (first | (with_reducible first | exact HB.out | apply below_alloc | apply pw_below_drewN | apply below_drew1 | refine below_set ?_ GE176.out) | exact HB.out)) hb); have n2_ := Aside0.mk (hbox); have n3_ := Aside0.mk ((by rw [hg]; exact (below_size (by repeat (first | (with_reducible first | exact HB.out | apply below_alloc | apply pw_below_drewN | apply below_drew1 | refine below_set ?_ GE176.out) | exact HB.out))) : w.heap.size ≤ gb177)); have n4_ := Aside0.mk ((by rw [hg]; exact (below_size (by repeat (first | (with_reducible first | exact HB.out | apply below_alloc | apply pw_below_drewN | apply below_drew1 | refine below_set ?_ GE176.out) | exact HB.out))) : w.heap.size ≤ gb177)); have n5_ := Aside0.mk ((by rw [hg]; exact Nat.ne_of_lt (blk_lt (g := gb176) (o := .cells #[.slice A0 l0.length c0] 22 (0, 0)) (by (with_reducible repeat (first | refine blk_drewN ?_ _ | refine blk_drew ?_ | refine blk_alloc ?_ _)); exact BK176.out)) : gb176 ≠ gb177)); have n6_ := Aside0.mk ((by rw [hg]; exact Nat.ne_of_gt (blk_lt (g := gb176) (o := .cells #[.slice A0 l0.length c0] 22 (0, 0)) (by (with_reducible repeat (first | refine blk_drewN ?_ _ | refine blk_drew ?_ | refine blk_alloc ?_ _)); exact BK176.out)) : gb177 ≠ gb176)); clear BK176; clear HB; have BK176 := n0_; have HB := n1_; have BK177 := n2_; have GW177 := n3_; have GE177 := n4_; have NB176_177 := n5_; have NB177_176 := n6_; clear n0_ n1_ n2_ n3_ n4_ n5_ n6_; clear hb hbox hg; have hnb37 := NB177_176.out; have hnc37 := NB176_177.out; have hcz38_0 : w36.cell? ⟨gb177, 0, none⟩ = some (.int .i64 0) := (blk_cell BK177.out 0).trans rfl; have hfz38_0 := blk_frozen BK177.out 0; have hcz39_0 : w36.cell? ⟨gb176, 0, none⟩ = some (.slice A0 l0.length c0) := (blk_cell BK176.out 0).trans rfl; have hfz39_0 := blk_frozen BK176.out 0) | (go_at_call 16; (with_reducible refine (matrix_Check.calls k _ _ l0 t178 _ ?side1 ?side2 A2.out).mono ?_); (case side1 => exact Kd.C_below HR0.out (by repeat (first | (with_reducible first | exact HB.out | apply below_alloc | apply pw_below_drewN | apply below_drew1 | refine below_set ?_ GE176.out | refine below_set ?_ GE177.out) | exact HB.out))); (case side2 => exact HC0.out); rintro e w' ⟨rfl, ⟨nd, rfl⟩⟩; (try first | exact ⟨rfl, _, World.drewN_drewN _ _ _⟩ | exact ⟨rfl, _, Eq.trans (World.drewN_drewN _ _ _) (congrArg (World.drewN _) (Nat.add_assoc _ _ _))⟩)) | (go_at_call 36; (with_reducible refine (matrix_columns.calls _ _ l0 t179 _ ?side1 ?side2 A4.out).mono ?_); (case side1 => exact Kd.C_below HR0.out (by repeat (first | (with_reducible first | exact HB.out | apply below_alloc | apply pw_below_drewN | apply below_drew1 | refine below_set ?_ GE176.out | refine below_set ?_ GE177.out) | exact HB.out))); (case side2 => exact HC0.out); rintro e w' ⟨rfl, ⟨nd, rfl⟩⟩; (try first | exact ⟨rfl, _, World.drewN_drewN _ _ _⟩ | exact ⟨rfl, _, Eq.trans (World.drewN_drewN _ _ _) (congrArg (World.drewN _) (Nat.add_assoc _ _ _))⟩)))
   repeat (go_quiet (first | ((with_reducible refine gate_dst (N := 1) rfl ?_); refine box_event ?hg (N := 1) ?hd (cs := #[.slice A0 l0.length c0]) (t := 22) ?hr ?_; (case hd => rfl); (case hg => rfl); (case hr => first | (go_simp; done) | (go_simp; rfl)); intro gb176 hg w34 hbox hb; have n0_ := Aside0.mk (below_step (by repeat (first | (with_reducible first | exact HB.out | apply below_alloc | apply pw_below_drewN | apply below_drew1) | exact HB.out)) hb); have n1_ := Aside0.mk (hbox); have n2_ := Aside0.mk ((by rw [hg]; exact (below_size (by repeat (first | (with_reducible first | exact HB.out | apply below_alloc | apply pw_below_drewN | apply below_drew1) | exact HB.out))) : w.heap.size ≤ gb176)); have n3_ := Aside0.mk ((by rw [hg]; exact (below_size (by repeat (first | (with_reducible first | exact HB.out | apply below_alloc | apply pw_below_drewN | apply below_drew1) | exact HB.out))) : w.heap.size ≤ gb176)); clear HB; have HB := n0_; have BK176 := n1_; have GW176 := n2_; have GE176 := n3_; clear n0_ n1_ n2_ n3_; clear hb hbox hg; have hcz35_0 : w34.cell? ⟨gb176, 0, none⟩ = some (.slice A0 l0.length c0) := (blk_cell BK176.out 0).trans rfl; have hfz35_0 := blk_frozen BK176.out 0) | ((with_reducible refine gate_dst (N := 4) rfl ?_); refine box_event ?hg (N := 4) ?hd (cs := #[.int .i64 0]) (t := 3) ?hr ?_; (case hd => rfl); (case hg => rfl); (case hr => first | (go_simp; done) | (go_simp; rfl)); intro gb177 hg w36 hbox hb; have n0_ := Aside0.mk (blk_below (g := gb176) (o := .cells #[.slice A0 l0.length c0] 22 (0, 0)) (by (with_reducible repeat (first | refine blk_drewN ?_ _ | refine blk_drew ?_ | refine blk_alloc ?_ _)); exact BK176.out) hb); have n1_ := Aside0.mk (below_step (by repeat (first | (with_reducible first | exact HB.out | apply below_alloc | apply pw_below_drewN | apply below_drew1 | refine below_set ?_ GE176.out) | exact HB.out)) hb); have n2_ := Aside0.mk (hbox); have n3_ := Aside0.mk ((by rw [hg]; exact (below_size (by repeat (first | (with_reducible first | exact HB.out | apply below_alloc | apply pw_below_drewN | apply below_drew1 | refine below_set ?_ GE176.out) | exact HB.out))) : w.heap.size ≤ gb177)); have n4_ := Aside0.mk ((by rw [hg]; exact (below_size (by repeat (first | (with_reducible first | exact HB.out | apply below_alloc | apply pw_below_drewN | apply below_drew1 | refine below_set ?_ GE176.out) | exact HB.out))) : w.heap.size ≤ gb177)); have n5_ := Aside0.mk ((by rw [hg]; exact Nat.ne_of_lt (blk_lt (g := gb176) (o := .cells #[.slice A0 l0.length c0] 22 (0, 0)) (by (with_reducible repeat (first | refine blk_drewN ?_ _ | refine blk_drew ?_ | refine blk_alloc ?_ _)); exact BK176.out)) : gb176 ≠ gb177)); have n6_ := Aside0.mk ((by rw [hg]; exact Nat.ne_of_gt (blk_lt (g := gb176) (o := .cells #[.slice A0 l0.length c0] 22 (0, 0)) (by (with_reducible repeat (first | refine blk_drewN ?_ _ | refine blk_drew ?_ | refine blk_alloc ?_ _)); exact BK176.out)) : gb177 ≠ gb176)); clear BK176; clear HB; have BK176 := n0_; have HB := n1_; have BK177 := n2_; have GW177 := n3_; have GE177 := n4_; have NB176_177 := n5_; have NB177_176 := n6_; clear n0_ n1_ n2_ n3_ n4_ n5_ n6_; clear hb hbox hg; have hnb37 := NB177_176.out; have hnc37 := NB176_177.out; have hcz38_0 : w36.cell? ⟨gb177, 0, none⟩ = some (.int .i64 0) := (blk_cell BK177.out 0).trans rfl; have hfz38_0 := blk_frozen BK177.out 0; have hcz39_0 : w36.cell? ⟨gb176, 0, none⟩ = some (.slice A0 l0.length c0) := (blk_cell BK176.out 0).trans rfl; have hfz39_0 := blk_frozen BK176.out 0) | (go_at_call 16; (with_reducible refine (matrix_Check.calls k _ _ l0 t178 _ ?side1 ?side2 A2.out).mono ?_); (case side1 => exact Kd.C_below HR0.out (by repeat (first | (with_reducible first | exact HB.out | apply below_alloc | apply pw_below_drewN | apply below_drew1 | refine below_set ?_ GE176.out | refine below_set ?_ GE177.out) | exact HB.out))); (case side2 => exact HC0.out); rintro e w' ⟨rfl, ⟨nd, rfl⟩⟩; (try first | exact ⟨rfl, _, World.drewN_drewN _ _ _⟩ | exact ⟨rfl, _, Eq.trans (World.drewN_drewN _ _ _) (congrArg (World.drewN _) (Nat.add_assoc _ _ _))⟩)) | (go_at_call 36; (with_reducible refine (matrix_columns.calls _ _ l0 t179 _ ?side1 ?side2 A4.out).mono ?_); (case side1 => exact Kd.C_below HR0.out (by repeat (first | (with_reducible first | exact HB.out | apply below_alloc | apply pw_below_drewN | apply below_drew1 | refine below_set ?_ GE176.out | refine below_set ?_ GE177.out) | exact HB.out))); (case side2 => exact HC0.out); rintro e w' ⟨rfl, ⟨nd, rfl⟩⟩; (try first | exact ⟨rfl, _, World.drewN_drewN _ _ _⟩ | exact ⟨rfl, _, Eq.trans (World.drewN_drewN _ _ _) (congrArg (World.drewN _) (Nat.add_assoc _ _ _))⟩))); try go_wp2_with (first | ((with_reducible refine gate_dst (N := 1) rfl ?_); refine box_event ?hg (N := 1) ?hd (cs := #[.slice A0 l0.length c0]) (t := 22) ?hr ?_; (case hd => rfl); (case hg => rfl); (case hr => first | (go_simp; done) | (go_simp; rfl)); intro gb176 hg w34 hbox hb; have n0_ := Aside0.mk (below_step (by repeat (first | (with_reducible first | exact HB.out | apply below_alloc | apply pw_below_drewN | apply below_drew1) | exact HB.out)) hb); have n1_ := Aside0.mk (hbox); have n2_ := Aside0.mk ((by rw [hg]; exact (below_size (by repeat (first | (with_reducible first | exact HB.out | apply below_alloc | apply pw_below_drewN | apply below_drew1) | exact HB.out))) : w.heap.size ≤ gb176)); have n3_ := Aside0.mk ((by rw [hg]; exact (below_size (by repeat (first | (with_reducible first | exact HB.out | apply below_alloc | apply pw_below_drewN | apply below_drew1) | exact HB.out))) : w.heap.size ≤ gb176)); clear HB; have HB := n0_; have BK176 := n1_; have GW176 := n2_; have GE176 := n3_; clear n0_ n1_ n2_ n3_; clear hb hbox hg; have hcz35_0 : w34.cell? ⟨gb176, 0, none⟩ = some (.slice A0 l0.length c0) := (blk_cell BK176.out 0).trans rfl; have hfz35_0 := blk_frozen BK176.out 0) | ((with_reducible refine gate_dst (N := 4) rfl ?_); refine box_event ?hg (N := 4) ?hd (cs := #[.int .i64 0]) (t := 3) ?hr ?_; (case hd => rfl); (case hg => rfl); (case hr => first | (go_simp; done) | (go_simp; rfl)); intro gb177 hg w36 hbox hb; have n0_ := Aside0.mk (blk_below (g := gb176) (o := .cells #[.slice A0 l0.length c0] 22 (0, 0)) (by (with_reducible repeat (first | refine blk_drewN ?_ _ | refine blk_drew ?_ | refine blk_alloc ?_ _)); exact BK176.out) hb); have n1_ := Aside0.mk (below_step (by repeat (first | (with_reducible first | exact HB.out | apply below_alloc | apply pw_below_drewN | apply below_drew1 | refine below_set ?_ GE176.out) | exact HB.out)) hb); have n2_ := Aside0.mk (hbox); have n3_ := Aside0.mk ((by rw [hg]; exact (below_size (by repeat (first | (with_reducible first | exact HB.out | apply below_alloc | apply pw_below_drewN | apply below_drew1 | refine below_set ?_ GE176.out) | exact HB.out))) : w.heap.size ≤ gb177)); have n4_ := Aside0.mk ((by rw [hg]; exact (below_size (by repeat (first | (with_reducible first | exact HB.out | apply below_alloc | apply pw_below_drewN | apply below_drew1 | refine below_set ?_ GE176.out) | exact HB.out))) : w.heap.size ≤ gb177)); have n5_ := Aside0.mk ((by rw [hg]; exact Nat.ne_of_lt (blk_lt (g := gb176) (o := .cells #[.slice A0 l0.length c0] 22 (0, 0)) (by (with_reducible repeat (first | refine blk_drewN ?_ _ | refine blk_drew ?_ | refine blk_alloc ?_ _)); exact BK176.out)) : gb176 ≠ gb177)); have n6_ := Aside0.mk ((by rw [hg]; exact Nat.ne_of_gt (blk_lt (g := gb176) (o := .cells #[.slice A0 l0.length c0] 22 (0, 0)) (by (with_reducible repeat (first | refine blk_drewN ?_ _ | refine blk_drew ?_ | refine blk_alloc ?_ _)); exact BK176.out)) : gb177 ≠ gb176)); clear BK176; clear HB; have BK176 := n0_; have HB := n1_; have BK177 := n2_; have GW177 := n3_; have GE177 := n4_; have NB176_177 := n5_; have NB177_176 := n6_; clear n0_ n1_ n2_ n3_ n4_ n5_ n6_; clear hb hbox hg; have hnb37 := NB177_176.out; have hnc37 := NB176_177.out; have hcz38_0 : w36.cell? ⟨gb177, 0, none⟩ = some (.int .i64 0) := (blk_cell BK177.out 0).trans rfl; have hfz38_0 := blk_frozen BK177.out 0; have hcz39_0 : w36.cell? ⟨gb176, 0, none⟩ = some (.slice A0 l0.length c0) := (blk_cell BK176.out 0).trans rfl; have hfz39_0 := blk_frozen BK176.out 0) | (go_at_call 16; (with_reducible refine (matrix_Check.calls k _ _ l0 t178 _ ?side1 ?side2 A2.out).mono ?_); (case side1 => exact Kd.C_below HR0.out (by repeat (first | (with_reducible first | exact HB.out | apply below_alloc | apply pw_below_drewN | apply below_drew1 | refine below_set ?_ GE176.out | refine below_set ?_ GE177.out) | exact HB.out))); (case side2 => exact HC0.out); rintro e w' ⟨rfl, ⟨nd, rfl⟩⟩; (try first | exact ⟨rfl, _, World.drewN_drewN _ _ _⟩ | exact ⟨rfl, _, Eq.trans (World.drewN_drewN _ _ _) (congrArg (World.drewN _) (Nat.add_assoc _ _ _))⟩)) | (go_at_call 36; (with_reducible refine (matrix_columns.calls _ _ l0 t179 _ ?side1 ?side2 A4.out).mono ?_); (case side1 => exact Kd.C_below HR0.out (by repeat (first | (with_reducible first | exact HB.out | apply below_alloc | apply pw_below_drewN | apply below_drew1 | refine below_set ?_ GE176.out | refine below_set ?_ GE177.out) | exact HB.out))); (case side2 => exact HC0.out); rintro e w' ⟨rfl, ⟨nd, rfl⟩⟩; (try first | exact ⟨rfl, _, World.drewN_drewN _ _ _⟩ | exact ⟨rfl, _, Eq.trans (World.drewN_drewN _ _ _) (congrArg (World.drewN _) (Nat.add_assoc _ _ _))⟩))))
   go_ret2
   exact ⟨_, by first | rfl | (simp [errW_none, errW_some] <;> rfl) | (simp [*, errW_none, errW_some] <;> rfl), by first | exact Kd.S_nil _ _ _ _ _ | exact Kd.N_nil _ _ _ _ _ | exact Kd.V_nil _ _ _ _ _ | exact Kd.Q_nil _ _ _ _ _ | exact Kd.R_nil _ _ _ _ _, by repeat (first | (with_reducible first | exact HB.out | apply below_alloc | apply pw_below_drewN | apply below_drew1 | refine below_set ?_ GE176.out | refine below_set ?_ GE177.out) | exact HB.out)⟩
 ·rw [if_neg c3] at H
  have c3b0 : (t178 == 0) = false := beq_eq_false_iff_ne.mpr c3
  have c3b1 : (t178 != 0) = true := bne_iff_ne.mpr c3
  simp only [Option.some.injEq, Prod.mk.injEq] at H
  obtain ⟨rfl, rfl⟩ := H
  go_enter Tryd.func23, Tryd.ntmps23
  go_wp2_with (first | ((with_reducible refine gate_dst (N := 1) rfl ?_); refine box_event ?hg (N := 1) ?hd (cs := #[.slice A0 l0.length c0]) (t := 22) ?hr ?_; (case hd => rfl); (case hg => rfl); (case hr => first | (go_simp; done) | (go_simp; rfl)); intro gb176 hg w40 hbox hb; have n0_ := Aside0.mk (below_step (by repeat (first | (with_reducible first | exact HB.out | apply below_alloc | apply pw_below_drewN | apply below_drew1) | exact HB.out)) hb); have n1_ := Aside0.mk (hbox); have n2_ := Aside0.mk ((by rw [hg]; exact (below_size (by repeat (first | (with_reducible first | exact HB.out | apply below_alloc | apply pw_below_drewN | apply below_drew1) | exact HB.out))) : w.heap.size ≤ gb176)); have n3_ := Aside0.mk ((by rw [hg]; exact (below_size (by repeat (first | (with_reducible first | exact HB.out | apply below_alloc | apply pw_below_drewN | apply below_drew1) | exact HB.out))) : w.heap.size ≤ gb176)); clear HB; have HB := n0_; have BK176 := n1_; have GW176 := n2_; have GE176 := n3_; clear n0_ n1_ n2_ n3_; clear hb hbox hg; have hcz41_0 : w40.cell? ⟨gb176, 0, none⟩ = some (.slice A0 l0.length c0) := (blk_cell BK176.out 0).trans rfl; have hfz41_0 := blk_frozen BK176.out 0) | ((with_reducible refine gate_dst (N := 4) rfl ?_); refine box_event ?hg (N := 4) ?hd (cs := #[.int .i64 0]) (t := 3) ?hr ?_; (case hd => rfl); (case hg => rfl); (case hr => first | (go_simp; done) | (go_simp; rfl)); intro gb177 hg w42 hbox hb; have n0_ := Aside0.mk (blk_below (g := gb176) (o := .cells #[.slice A0 l0.length c0] 22 (0, 0)) (by (with_reducible repeat (first | refine blk_drewN ?_ _ | refine blk_drew ?_ | refine blk_alloc ?_ _)); exact BK176.out) hb); have n1_ := Aside0.mk (below_step (by repeat (first | (with_reducible first | exact HB.out | apply below_alloc | apply pw_below_drewN | apply below_drew1 | refine below_set ?_ GE176.out) | exact HB.out)) hb); have n2_ := Aside0.mk (hbox); have n3_ := Aside0.mk ((by rw [hg]; exact (below_size (by repeat (first | (with_reducible first | exact HB.out | apply below_alloc | apply pw_below_drewN | apply below_drew1 | refine below_set ?_ GE176.out) | exact HB.out))) : w.heap.size ≤ gb177)); have n4_ := Aside0.mk ((by rw [hg]; exact (below_size (by repeat (first | (with_reducible first | exact HB.out | apply below_alloc | apply pw_below_drewN | apply below_drew1 | refine below_set ?_ GE176.out) | exact HB.out))) : w.heap.size ≤ gb177)); have n5_ := Aside0.mk ((by rw [hg]; exact Nat.ne_of_lt (blk_lt (g := gb176) (o := .cells #[.slice A0 l0.length c0] 22 (0, 0)) (by (with_reducible repeat (first | refine blk_drewN ?_ _ | refine blk_drew ?_ | refine blk_alloc ?_ _)); exact BK176.out)) : gb176 ≠ gb177)); have n6_ := Aside0.mk ((by rw [hg]; exact Nat.ne_of_gt (blk_lt (g := gb176) (o := .cells #[.slice A0 l0.length c0] 22 (0, 0)) (by (with_reducible repeat (first | refine blk_drewN ?_ _ | refine blk_drew ?_ | refine blk_alloc ?_ _)); exact BK176.out)) : gb177 ≠ gb176)); clear BK176; clear HB; have BK176 := n0_; have HB := n1_; have BK177 := n2_; have GW177 := n3_; have GE177 := n4_; have NB176_177 := n5_; have NB177_176 := n6_; clear n0_ n1_ n2_ n3_ n4_ n5_ n6_; clear hb hbox hg; have hnb43 := NB177_176.out; have hnc43 := NB176_177.out; have hcz44_0 : w42.cell? ⟨gb177, 0, none⟩ = some (.int .i64 0) := (blk_cell BK177.out 0).trans rfl; have hfz44_0 := blk_frozen BK177.out 0; have hcz45_0 : w42.cell? ⟨gb176, 0, none⟩ = some (.slice A0 l0.length c0) := (blk_cell BK176.out 0).trans rfl; have hfz45_0 := blk_frozen BK176.out 0) | (go_at_call 16; (with_reducible refine (matrix_Check.calls k _ _ l0 t178 _ ?side1 ?side2 A2.out).mono ?_); (case side1 => exact Kd.C_below HR0.out (by repeat (first | (with_reducible first | exact HB.out | apply below_alloc | apply pw_below_drewN | apply below_drew1 | refine below_set ?_ GE176.out | refine below_set ?_ GE177.out) | exact HB.out))); (case side2 => exact HC0.out); rintro e w' ⟨rfl, ⟨nd, rfl⟩⟩; (try first | exact ⟨rfl, _, World.drewN_drewN _ _ _⟩ | exact ⟨rfl, _, Eq.trans (World.drewN_drewN _ _ _) (congrArg (World.drewN _) (Nat.add_assoc _ _ _))⟩)))
  repeat (go_quiet (first | ((with_reducible refine gate_dst (N := 1) rfl ?_); refine box_event ?hg (N := 1) ?hd (cs := #[.slice A0 l0.length c0]) (t := 22) ?hr ?_; (case hd => rfl); (case hg => rfl); (case hr => first | (go_simp; done) | (go_simp; rfl)); intro gb176 hg w40 hbox hb; have n0_ := Aside0.mk (below_step (by repeat (first | (with_reducible first | exact HB.out | apply below_alloc | apply pw_below_drewN | apply below_drew1) | exact HB.out)) hb); have n1_ := Aside0.mk (hbox); have n2_ := Aside0.mk ((by rw [hg]; exact (below_size (by repeat (first | (with_reducible first | exact HB.out | apply below_alloc | apply pw_below_drewN | apply below_drew1) | exact HB.out))) : w.heap.size ≤ gb176)); have n3_ := Aside0.mk ((by rw [hg]; exact (below_size (by repeat (first | (with_reducible first | exact HB.out | apply below_alloc | apply pw_below_drewN | apply below_drew1) | exact HB.out))) : w.heap.size ≤ gb176)); clear HB; have HB := n0_; have BK176 := n1_; have GW176 := n2_; have GE176 := n3_; clear n0_ n1_ n2_ n3_; clear hb hbox hg; have hcz41_0 : w40.cell? ⟨gb176, 0, none⟩ = some (.slice A0 l0.length c0) := (blk_cell BK176.out 0).trans rfl; have hfz41_0 := blk_frozen BK176.out 0) | ((with_reducible refine gate_dst (N := 4) rfl ?_); refine box_event ?hg (N := 4) ?hd (cs := #[.int .i64 0]) (t := 3) ?hr ?_; (case hd => rfl); (case hg => rfl); (case hr => first | (go_simp; done) | (go_simp; rfl)); intro gb177 hg w42 hbox hb; have n0_ := Aside0.mk (blk_below (g := gb176) (o := .cells #[.slice A0 l0.length c0] 22 (0, 0)) (by (with_reducible repeat (first | refine blk_drewN ?_ _ | refine blk_drew ?_ | refine blk_alloc ?_ _)); exact BK176.out) hb); have n1_ := Aside0.mk (below_step (by repeat (first | (with_reducible first | exact HB.out | apply below_alloc | apply pw_below_drewN | apply below_drew1 | refine below_set ?_ GE176.out) | exact HB.out)) hb); have n2_ := Aside0.mk (hbox); have n3_ := Aside0.mk ((by rw [hg]; exact (below_size (by repeat (first | (with_reducible first | exact HB.out | apply below_alloc | apply pw_below_drewN | apply below_drew1 | refine below_set ?_ GE176.out) | exact HB.out))) : w.heap.size ≤ gb177)); have n4_ := Aside0.mk ((by rw [hg]; exact (below_size (by repeat (first | (with_reducible first | exact HB.out | apply below_alloc | apply pw_below_drewN | apply below_drew1 | refine below_set ?_ GE176.out) | exact HB.out))) : w.heap.size ≤ gb177)); have n5_ := Aside0.mk ((by rw [hg]; exact Nat.ne_of_lt (blk_lt (g := gb176) (o := .cells #[.slice A0 l0.length c0] 22 (0, 0)) (by (with_reducible repeat (first | refine blk_drewN ?_ _ | refine blk_drew ?_ | refine blk_alloc ?_ _)); exact BK176.out)) : gb176 ≠ gb177)); have n6_ := Aside0.mk ((by rw [hg]; exact Nat.ne_of_gt (blk_lt (g := gb176) (o := .cells #[.slice A0 l0.length c0] 22 (0, 0)) (by (with_reducible repeat (first | refine blk_drewN ?_ _ | refine blk_drew ?_ | refine blk_alloc ?_ _)); exact BK176.out)) : gb177 ≠ gb176)); clear BK176; clear HB; have BK176 := n0_; have HB := n1_; have BK177 := n2_; have GW177 := n3_; have GE177 := n4_; have NB176_177 := n5_; have NB177_176 := n6_; clear n0_ n1_ n2_ n3_ n4_ n5_ n6_; clear hb hbox hg; have hnb43 := NB177_176.out; have hnc43 := NB176_177.out; have hcz44_0 : w42.cell? ⟨gb177, 0, none⟩ = some (.int .i64 0) := (blk_cell BK177.out 0).trans rfl; have hfz44_0 := blk_frozen BK177.out 0; have hcz45_0 : w42.cell? ⟨gb176, 0, none⟩ = some (.slice A0 l0.length c0) := (blk_cell BK176.out 0).trans rfl; have hfz45_0 := blk_frozen BK176.out 0) | (go_at_call 16; (with_reducible refine (matrix_Check.calls k _ _ l0 t178 _ ?side1 ?side2 A2.out).mono ?_); (case side1 => exact Kd.C_below HR0.out (by repeat (first | (with_reducible first | exact HB.out | apply below_alloc | apply pw_below_drewN | apply below_drew1 | refine below_set ?_ GE176.out | refine below_set ?_ GE177.out) | exact HB.out))); (case side2 => exact HC0.out); rintro e w' ⟨rfl, ⟨nd, rfl⟩⟩; (try first | exact ⟨rfl, _, World.drewN_drewN _ _ _⟩ | exact ⟨rfl, _, Eq.trans (World.drewN_drewN _ _ _) (congrArg (World.drewN _) (Nat.add_assoc _ _ _))⟩))); try go_wp2_with (first | ((with_reducible refine gate_dst (N := 1) rfl ?_); refine box_event ?hg (N := 1) ?hd (cs := #[.slice A0 l0.length c0]) (t := 22) ?hr ?_; (case hd => rfl); (case hg => rfl); (case hr => first | (go_simp; done) | (go_simp; rfl)); intro gb176 hg w40 hbox hb; have n0_ := Aside0.mk (below_step (by repeat (first | (with_reducible first | exact HB.out | apply below_alloc | apply pw_below_drewN | apply below_drew1) | exact HB.out)) hb); have n1_ := Aside0.mk (hbox); have n2_ := Aside0.mk ((by rw [hg]; exact (below_size (by repeat (first | (with_reducible first | exact HB.out | apply below_alloc | apply pw_below_drewN | apply below_drew1) | exact HB.out))) : w.heap.size ≤ gb176)); have n3_ := Aside0.mk ((by rw [hg]; exact (below_size (by repeat (first | (with_reducible first | exact HB.out | apply below_alloc | apply pw_below_drewN | apply below_drew1) | exact HB.out))) : w.heap.size ≤ gb176)); clear HB; have HB := n0_; have BK176 := n1_; have GW176 := n2_; have GE176 := n3_; clear n0_ n1_ n2_ n3_; clear hb hbox hg; have hcz41_0 : w40.cell? ⟨gb176, 0, none⟩ = some (.slice A0 l0.length c0) := (blk_cell BK176.out 0).trans rfl; have hfz41_0 := blk_frozen BK176.out 0) | ((with_reducible refine gate_dst (N := 4) rfl ?_); refine box_event ?hg (N := 4) ?hd (cs := #[.int .i64 0]) (t := 3) ?hr ?_; (case hd => rfl); (case hg => rfl); (case hr => first | (go_simp; done) | (go_simp; rfl)); intro gb177 hg w42 hbox hb; have n0_ := Aside0.mk (blk_below (g := gb176) (o := .cells #[.slice A0 l0.length c0] 22 (0, 0)) (by (with_reducible repeat (first | refine blk_drewN ?_ _ | refine blk_drew ?_ | refine blk_alloc ?_ _)); exact BK176.out) hb); have n1_ := Aside0.mk (below_step (by repeat (first | (with_reducible first | exact HB.out | apply below_alloc | apply pw_below_drewN | apply below_drew1 | refine below_set ?_ GE176.out) | exact HB.out)) hb); have n2_ := Aside0.mk (hbox); have n3_ := Aside0.mk ((by rw [hg]; exact (below_size (by repeat (first | (with_reducible first | exact HB.out | apply below_alloc | apply pw_below_drewN | apply below_drew1 | refine below_set ?_ GE176.out) | exact HB.out))) : w.heap.size ≤ gb177)); have n4_ := Aside0.mk ((by rw [hg]; exact (below_size (by repeat (first | (with_reducible first | exact HB.out | apply below_alloc | apply pw_below_drewN | apply below_drew1 | refine below_set ?_ GE176.out) | exact HB.out))) : w.heap.size ≤ gb177)); have n5_ := Aside0.mk ((by rw [hg]; exact Nat.ne_of_lt (blk_lt (g := gb176) (o := .cells #[.slice A0 l0.length c0] 22 (0, 0)) (by (with_reducible repeat (first | refine blk_drewN ?_ _ | refine blk_drew ?_ | refine blk_alloc ?_ _)); exact BK176.out)) : gb176 ≠ gb177)); have n6_ := Aside0.mk ((by rw [hg]; exact Nat.ne_of_gt (blk_lt (g := gb176) (o := .cells #[.slice A0 l0.length c0] 22 (0, 0)) (by (with_reducible repeat (first | refine blk_drewN ?_ _ | refine blk_drew ?_ | refine blk_alloc ?_ _)); exact BK176.out)) : gb177 ≠ gb176)); clear BK176; clear HB; have BK176 := n0_; have HB := n1_; have BK177 := n2_; have GW177 := n3_; have GE177 := n4_; have NB176_177 := n5_; have NB177_176 := n6_; clear n0_ n1_ n2_ n3_ n4_ n5_ n6_; clear hb hbox hg; have hnb43 := NB177_176.out; have hnc43 := NB176_177.out; have hcz44_0 : w42.cell? ⟨gb177, 0, none⟩ = some (.int .i64 0) := (blk_cell BK177.out 0).trans rfl; have hfz44_0 := blk_frozen BK177.out 0; have hcz45_0 : w42.cell? ⟨gb176, 0, none⟩ = some (.slice A0 l0.length c0) := (blk_cell BK176.out 0).trans rfl; have hfz45_0 := blk_frozen BK176.out 0) | (go_at_call 16; (with_reducible refine (matrix_Check.calls k _ _ l0 t178 _ ?side1 ?side2 A2.out).mono ?_); (case side1 => exact Kd.C_below HR0.out (by repeat (first | (with_reducible first | exact HB.out | apply below_alloc | apply pw_below_drewN | apply below_drew1 | refine below_set ?_ GE176.out | refine below_set ?_ GE177.out) | exact HB.out))); (case side2 => exact HC0.out); rintro e w' ⟨rfl, ⟨nd, rfl⟩⟩; (try first | exact ⟨rfl, _, World.drewN_drewN _ _ _⟩ | exact ⟨rfl, _, Eq.trans (World.drewN_drewN _ _ _) (congrArg (World.drewN _) (Nat.add_assoc _ _ _))⟩))))
  go_ret2
  exact ⟨_, by first | rfl | (simp [errW_none, errW_some] <;> rfl) | (simp [*, errW_none, errW_some] <;> rfl), by first | exact Kd.S_nil _ _ _ _ _ | exact Kd.N_nil _ _ _ _ _ | exact Kd.V_nil _ _ _ _ _ | exact Kd.Q_nil _ _ _ _ _ | exact Kd.R_nil _ _ _ _ _, by repeat (first | (with_reducible first | exact HB.out | apply below_alloc | apply pw_below_drewN | apply below_drew1 | refine below_set ?_ GE176.out | refine below_set ?_ GE177.out) | exact HB.out)⟩
end Go.Proofs.YtijebgceopddmaaDoor.Pa
end
section
namespace Go.Proofs.YtijebgceopddmaaDoor.Pa
open Go.RowKit Go.Proofs.YtijebgceopddmaaDoor.Gf Go.Proofs.YtijebgceopddmaaDoor.Pr Go.Proofs.YtijebgceopddmaaDoorW.PrintWords Go.Proofs.YtijebgceopddmaaDoorW.PrintLast Go.Proofs.YtijebgceopddmaaDoorW.PrintMore
attribute [local go_sem] max2_int min2_int max_two min_two max_three min_three max_four min_four   -- for this text's walks alone
set_option linter.unusedVariables false
set_option linter.unusedSimpArgs false
def matrix_Express.j0 : Nat → List Int → List (List Int) → Option (List Int × Int)
 | 0, _, _ => none
 | k + 1, x1, x195000 => (grid_46.f (x1.length : Int) (x195000.length : Int) x195000).bind fun t197 => ((matrix_solve.f k t197 x1 (x195000.length : Int)).bind fun bt200 => (if bt200.2.2 = true then (some (bt200.1, 0)) else (some (([] : List Int), 8))))
def matrix_Express.f (k : Nat) (l0 : List (List Int)) (l1 : List Int) : Option (List Int × Int) := (matrix_Check.f k l0).bind fun t195 => (if t195 = 0 then (if (l1.length : Int) > 48 then (some (([] : List Int), 2)) else (if (l0.length : Int) > 0 then ((matrix_columns.f l0).bind fun t196 => (if (l1.length : Int) = t196 then (matrix_Express.j0 k l1 l0) else (some (([] : List Int), 1)))) else (matrix_Express.j0 k l1 l0))) else (some (([] : List Int), t195)))
def matrix_Express.T8 : Bool × List (List Nat × List Nat) := (true, [([], []), ([0], [0]), ([], []), ([2], [2]), ([], []), ([1, 3, 4], [1, 3, 4]), ([], []), ([], []), ([7], [7]), ([5, 6, 8, 5], [5, 6, 8]), ([9], [9]), ([10], [10]), ([10], [10]), ([10], [10]), ([11, 9, 0, 1, 2, 3, 4, 5, 6, 7, 8, 9, 10, 11], [11]), ([12, 14, 0, 1, 2, 3, 4, 5, 6, 7, 8, 9, 10, 11, 12, 14], [12]), ([13, 15, 0, 1, 2, 3, 4, 5, 6, 7, 8, 9, 10, 11, 12, 13, 14, 15], [13])])
def matrix_Express.B8 : List Nat := [0, 1, 0, 4, 0, 31, 0, 0, 128, 511, 1023, 2047, 2047, 2047, 4095, 24575, 65535]
theorem matrix_Express.tab8 : rtab .any (opsOf Tryd.f25 8) = matrix_Express.T8 := by kernel_rfl
theorem matrix_Express.bits8 : waitsOk matrix_Express.T8.2 matrix_Express.B8 = true := by kernel_rfl
set_option maxHeartbeats 8000000 in
set_option maxRecDepth 100000 in
theorem matrix_Express.calls (k : Nat) (A0 : Option Addr) (c0 : Nat) (l0 : List (List Int)) (A1 : Option Addr) (c1 : Nat) (l1 : List Int) (r1 : List Int) (r2 : Int) (w : World) (hG : HighIn w) (hr0 : Kd.C (Kd.slice 5 (Kd.int .u8)) w A0 l0.length l0) (hc0 : l0.length ≤ c0) (hr1 : Kd.C (Kd.int .u8) w A1 l1.length l1) (hc1 : l1.length ≤ c1) (h : matrix_Express.f k l0 l1 = some (r1, r2)) :
  Calls Tryd.prog 25 #[.slice A0 l0.length c0, .slice A1 l1.length c1] w fun e w' => ∃ v0_ : Value, e = .returned (.tuple #[v0_, .int .i64 r2]) ∧ Kd.R (Kd.int .u8) 5 w' w.heap.size (fun _ => True) v0_ r1 ∧ Below w.heap.size w w' := by
 have hmf : ∀ (fn : Fn) (first cap : Array Value) (w : World), (Instr.makeFunc fn first cap).run Tryd.prog w = .ok (.func fn first cap) w := fun _ _ _ _ => rfl
 have HG := Aside0.mk hG
 clear hG
 have HR0 := Aside0.mk hr0
 have HC0 := Aside0.mk hc0
 clear hr0 hc0
 have HR1 := Aside0.mk hr1
 have HC1 := Aside0.mk hc1
 clear hr1 hc1
 have HB := Aside0.mk (Below.refl w.heap.size w)
 have H : ((matrix_Check.f k l0).bind fun t195 => (if t195 = 0 then (if (l1.length : Int) > 48 then (some (([] : List Int), 2)) else (if (l0.length : Int) > 0 then ((matrix_columns.f l0).bind fun t196 => (if (l1.length : Int) = t196 then (matrix_Express.j0 k l1 l0) else (some (([] : List Int), 1)))) else (matrix_Express.j0 k l1 l0))) else (some (([] : List Int), t195)))) = some (r1, r2) := h
 clear h
 replace H := Option.bind_eq_some_iff.mp H
 obtain ⟨t195, A30, H⟩ := H
 replace H : (if t195 = 0 then (if (l1.length : Int) > 48 then (some (([] : List Int), 2)) else (if (l0.length : Int) > 0 then ((matrix_columns.f l0).bind fun t196 => (if (l1.length : Int) = t196 then (matrix_Express.j0 k l1 l0) else (some (([] : List Int), 1)))) else (matrix_Express.j0 k l1 l0))) else (some (([] : List Int), t195))) = some (r1, r2) := H
 have A3 := Aside0.mk A30
 clear A30
 by_cases c4 : t195 = 0
 ·rw [if_pos c4] at H
  have c4b0 : (t195 == 0) = true := beq_iff_eq.mpr c4
  have c4b1 : (t195 != 0) = false := bne_eq_false_iff_eq.mpr c4
  clear c4
  have HC5 := Aside0.mk H
  clear H
  go_enter Tryd.func25, Tryd.ntmps25
  go_upto_block 0 with (first | ((with_reducible refine gate_dst (N := 2) rfl ?_); (try (refine gate_guard (by rfl) ?_; dsimp only)); refine box_event ?hg (N := 2) ?hd (cs := #[.slice A0 l0.length c0]) (t := 22) ?hr ?_; (case hd => rfl); (case hg => rfl); (case hr => first | (go_simp; done) | (go_simp; rfl)); intro gb194 hg w6 hbox hb; have n0_ := Aside0.mk (below_step (by repeat (first | (with_reducible first | exact HB.out | apply below_alloc | apply pw_below_drewN | apply below_drew1) | exact HB.out)) hb); have n1_ := Aside0.mk (hbox); have n2_ := Aside0.mk ((by rw [hg]; exact (below_size (by repeat (first | (with_reducible first | exact HB.out | apply below_alloc | apply pw_below_drewN | apply below_drew1) | exact HB.out))) : w.heap.size ≤ gb194)); have n3_ := Aside0.mk ((by rw [hg]; exact (below_size (by repeat (first | (with_reducible first | exact HB.out | apply below_alloc | apply pw_below_drewN | apply below_drew1) | exact HB.out))) : w.heap.size ≤ gb194)); clear HB; have HB := n0_; have BK194 := n1_; have GW194 := n2_; have GE194 := n3_; clear n0_ n1_ n2_ n3_; clear hb hbox hg; have hcz7_0 : w6.cell? ⟨gb194, 0, none⟩ = some (.slice A0 l0.length c0) := (blk_cell BK194.out 0).trans rfl; have hfz7_0 := blk_frozen BK194.out 0) | ((with_reducible refine gate_callee (f := 16) rfl ?_); refine goesL_ (some 11) rfl rfl Tryd.func16 (by kernel_rfl) rfl #[.slice A0 l0.length c0] rfl (by (try simp only [List.map_toArray, List.map_cons, List.map_nil]); first | done | rfl | (simp only [List.length_drop, List.length_take]; rfl)) ?_; (with_reducible refine (matrix_Check.calls k _ _ l0 t195 _ ?side1 ?side2 A3.out).mono ?_); (case side1 => repeat (first | exact (Kd.C_below HR0.out HB.out) | (with_reducible refine Kd.C_alloc ?_ _) | (with_reducible refine Kd.C_drewN ?_ _) | (with_reducible refine Kd.C_drew ?_))); (case side2 => exact HC0.out); rintro e w' ⟨rfl, ⟨nd, rfl⟩⟩; refine ⟨_, rfl, ?_⟩))
  (try simp only [Act.put, List.setIfInBounds_toArray, List.set_cons_zero, List.set_cons_succ])
  go_cut [] (fun wc => ∃ (kq : Nat), Aside0 (matrix_Express.j0 kq l1 l0 = some (r1, r2)) ∧ Aside0 (kq ≤ k) ∧ Aside0 (wc.heap[gb194]? = some (.cells #[(.slice A0 l0.length c0)] 22 (0, 0))) ∧ Aside0 (Below w.heap.size w wc))
  case first =>
   have H := HC5.out
   clear HC5
   by_cases c8 : (l1.length : Int) > 48
   ·rw [if_pos c8] at H
    have c8b0 : decide (48 < (l1.length : Int)) = true := decide_eq_true c8
    have c8b1 : decide (48 < l1.length) = true := decide_eq_true (by omega)
    clear c8
    (first | rw [c8b0] | (simp only [i64_w, i32_w]; rw [c8b0]) | skip)
    simp only [Option.some.injEq, Prod.mk.injEq] at H
    obtain ⟨rfl, rfl⟩ := H
    go_wp2
    go_ret2
    exact ⟨_, by first | rfl | (simp [errW_none, errW_some] <;> rfl) | (simp [*, errW_none, errW_some] <;> rfl), by first | exact Kd.R_nil _ _ _ _ _ | exact Kd.N_nil _ _ _ _ _ | exact Kd.V_nil _ _ _ _ _ | exact Kd.Q_nil _ _ _ _ _ | exact Kd.S_nil _ _ _ _ _, by repeat (first | (with_reducible first | exact HB.out | apply below_alloc | apply pw_below_drewN | apply below_drew1 | refine below_set ?_ GE194.out) | exact HB.out)⟩
   ·rw [if_neg c8] at H
    have c8b0 : decide (48 < (l1.length : Int)) = false := decide_eq_false c8
    have c8b1 : decide (48 < l1.length) = false := decide_eq_false (by omega)
    clear c8
    (first | rw [c8b0] | (simp only [i64_w, i32_w]; rw [c8b0]) | skip)
    by_cases c9 : (l0.length : Int) > 0
    ·rw [if_pos c9] at H
     have c9b0 : decide (0 < (l0.length : Int)) = true := decide_eq_true c9
     have c9b1 : decide (0 < l0.length) = true := decide_eq_true (by omega)
     clear c9
     replace H := Option.bind_eq_some_iff.mp H
     obtain ⟨t196, A100, H⟩ := H
     replace H : (if (l1.length : Int) = t196 then (matrix_Express.j0 k l1 l0) else (some (([] : List Int), 1))) = some (r1, r2) := H
     have A10 := Aside0.mk A100
     clear A100
     by_cases c11 : (l1.length : Int) = t196
     ·rw [if_pos c11] at H
      have c11b0 : ((l1.length : Int) == t196) = true := beq_iff_eq.mpr c11
      have c11b1 : ((l1.length : Int) != t196) = false := bne_eq_false_iff_eq.mpr c11
      clear c11
      have H' := Aside0.mk H
      clear H
      have hcz12_0 : w6.cell? ⟨gb194, 0, none⟩ = some (.slice A0 l0.length c0) := (blk_cell BK194.out 0).trans rfl
      have hfz12_0 := blk_frozen BK194.out 0
      go_wp2_with (first | (go_at_call 36; (with_reducible refine (matrix_columns.calls _ _ l0 t196 _ ?side1 ?side2 A10.out).mono ?_); (case side1 => repeat (first | exact (Kd.C_below HR0.out HB.out) | (with_reducible refine Kd.C_alloc ?_ _) | (with_reducible refine Kd.C_drewN ?_ _) | (with_reducible refine Kd.C_drew ?_))); (case side2 => exact HC0.out); rintro e w' ⟨rfl, ⟨nd, rfl⟩⟩))
      go_meet
      case rel => exact ⟨_, H', ⟨by first | omega | exact Nat.le_refl _⟩, ⟨by (with_reducible repeat (first | refine blk_drewN ?_ _ | refine blk_drew ?_ | refine blk_alloc ?_ _)); exact BK194.out⟩, ⟨by repeat (first | (with_reducible first | exact HB.out | apply below_alloc | apply pw_below_drewN | apply below_drew1 | refine below_set ?_ GE194.out) | exact HB.out)⟩⟩
     ·rw [if_neg c11] at H
      have c11b0 : ((l1.length : Int) == t196) = false := beq_eq_false_iff_ne.mpr c11
      have c11b1 : ((l1.length : Int) != t196) = true := bne_iff_ne.mpr c11
      simp only [Option.some.injEq, Prod.mk.injEq] at H
      obtain ⟨rfl, rfl⟩ := H
      have hcz13_0 : w6.cell? ⟨gb194, 0, none⟩ = some (.slice A0 l0.length c0) := (blk_cell BK194.out 0).trans rfl
      have hfz13_0 := blk_frozen BK194.out 0
      go_wp2_with (first | (go_at_call 36; (with_reducible refine (matrix_columns.calls _ _ l0 t196 _ ?side1 ?side2 A10.out).mono ?_); (case side1 => repeat (first | exact (Kd.C_below HR0.out HB.out) | (with_reducible refine Kd.C_alloc ?_ _) | (with_reducible refine Kd.C_drewN ?_ _) | (with_reducible refine Kd.C_drew ?_))); (case side2 => exact HC0.out); rintro e w' ⟨rfl, ⟨nd, rfl⟩⟩))
      go_ret2
      exact ⟨_, by first | rfl | (simp [errW_none, errW_some] <;> rfl) | (simp [*, errW_none, errW_some] <;> rfl), by first | exact Kd.R_nil _ _ _ _ _ | exact Kd.N_nil _ _ _ _ _ | exact Kd.V_nil _ _ _ _ _ | exact Kd.Q_nil _ _ _ _ _ | exact Kd.S_nil _ _ _ _ _, by repeat (first | (with_reducible first | exact HB.out | apply below_alloc | apply pw_below_drewN | apply below_drew1 | refine below_set ?_ GE194.out) | exact HB.out)⟩
    ·rw [if_neg c9] at H
     have c9b0 : decide (0 < (l0.length : Int)) = false := decide_eq_false c9
     have c9b1 : decide (0 < l0.length) = false := decide_eq_false (by omega)
     clear c9
     have H' := Aside0.mk H
     clear H
     have hcz14_0 : w6.cell? ⟨gb194, 0, none⟩ = some (.slice A0 l0.length c0) := (blk_cell BK194.out 0).trans rfl
     have hfz14_0 := blk_frozen BK194.out 0
     go_wp2
     go_meet
     case rel => exact ⟨_, H', ⟨by first | omega | exact Nat.le_refl _⟩, ⟨by (with_reducible repeat (first | refine blk_drewN ?_ _ | refine blk_drew ?_ | refine blk_alloc ?_ _)); exact BK194.out⟩, ⟨by repeat (first | (with_reducible first | exact HB.out | apply below_alloc | apply pw_below_drewN | apply below_drew1 | refine below_set ?_ GE194.out) | exact HB.out)⟩⟩
  case rest =>
   clear HC5
   try clear c1
   try clear c2
   try clear p2
   try clear c4
   try clear c4b0
   try clear c4b1
   try clear c8
   try clear c8b0
   try clear c8b1
   try clear c9
   try clear c9b0
   try clear c9b1
   try clear c11
   try clear c11b0
   try clear c11b1
   try clear hcz12_0
   try clear hcz13_0
   try clear hcz14_0
   try clear hcz7_0
   try clear hfz12_0
   try clear hfz13_0
   try clear hfz14_0
   try clear hfz7_0
   obtain ⟨kq, HA, HJ4, BK194, HB⟩ := hcut
   cases kq with
   | zero => exact absurd HA.out (by simp [matrix_Express.j0])
   | succ kj4 =>
    have H := HA.out
    clear HA
    simp only [matrix_Express.j0] at H
    replace H := Option.bind_eq_some_iff.mp H
    obtain ⟨t197, A150, H⟩ := H
    replace H : ((matrix_solve.f kj4 t197 l1 (l0.length : Int)).bind fun bt200 => (if bt200.2.2 = true then (some (bt200.1, 0)) else (some (([] : List Int), 8)))) = some (r1, r2) := H
    have A15 := Aside0.mk A150
    clear A150
    replace H := Option.bind_eq_some_iff.mp H
    obtain ⟨⟨t200, t201, t202⟩, A160, H⟩ := H
    replace H : (if t202 = true then (some (t200, 0)) else (some (([] : List Int), 8))) = some (r1, r2) := H
    have A16 := Aside0.mk A160
    clear A160
    by_cases c17 : t202 = true
    ·subst c17
     have H1 : (some (t200, 0)) = some (r1, r2) := by rw [if_pos rfl] at H; exact H
     clear H
     have H := H1
     clear H1
     simp only [Option.some.injEq, Prod.mk.injEq] at H
     obtain ⟨rfl, rfl⟩ := H
     try go_wp2
     have n0_ := Aside0.mk (blk_drew BK194.out)
     have n1_ := Aside0.mk (below_drew1 HB.out)
     clear BK194
     clear HB
     have BK194 := n0_
     have HB := n1_
     clear n0_ n1_
     refine start_ (n := 17) (S := fun w' => w'.cell? ⟨gb194, 0, none⟩ = some (.slice A0 l0.length c0)) (ds := []) #[false, false, false, false, false, false, false, false, false, false, false, false, false, false, false, false, false] (by kernel_rfl) rfl rfl ((blk_cell BK194.out 0).trans rfl) (fun hHeld => ?_); refine with_tabW matrix_Express.tab8 matrix_Express.bits8 (fun HT_ HW_ => ?_)
     generalize wc.drew = w18 at BK194 HB hHeld ⊢
     refine pure_ (i := 0) (N := some 31) (v := ?_) (a' := ?_) #[true, false, false, false, false, false, false, false, false, false, false, false, false, false, false, false, false] rfl rfl (any_of HT_.out (by kernel_rfl)) (fun _ _ _ h => h) (Or.inl ⟨by rfl, ?_⟩) ?_ ?_
     rotate_left
     ·intro w'
      go_simp
      with_reducible rfl
     rotate_left
     ·simp only [Act.put, List.setIfInBounds_toArray, List.set_cons_zero, List.set_cons_succ, i64_w, i32_w]
      rfl
     refine pure_ (i := 1) (N := some 32) (v := ?_) (a' := ?_) #[true, true, false, false, false, false, false, false, false, false, false, false, false, false, false, false, false] rfl rfl (any_of HT_.out (by kernel_rfl)) (fun _ _ _ h => h) (Or.inl ⟨by rfl, ?_⟩) ?_ ?_
     rotate_left
     ·intro w'
      go_simp
      with_reducible rfl
     rotate_left
     ·simp only [Act.put, List.setIfInBounds_toArray, List.set_cons_zero, List.set_cons_succ, i64_w, i32_w]
      rfl
     refine pure_ (i := 4) (N := some 35) (v := ?_) (a' := ?_) #[true, true, false, false, true, false, false, false, false, false, false, false, false, false, false, false, false] rfl rfl (any_of HT_.out (by kernel_rfl)) (fun _ _ _ h => h) (Or.inl ⟨by rfl, ?_⟩) ?_ ?_
     rotate_left
     ·intro w'
      go_simp
      with_reducible rfl
     rotate_left
     ·simp only [Act.put, List.setIfInBounds_toArray, List.set_cons_zero, List.set_cons_succ, i64_w, i32_w]
      rfl
     refine pure_ (i := 6) (N := some 37) (v := ?_) (a' := ?_) #[true, true, false, false, true, false, true, false, false, false, false, false, false, false, false, false, false] rfl rfl (any_of HT_.out (by kernel_rfl)) (fun _ _ _ h => h) (Or.inl ⟨by rfl, ?_⟩) ?_ ?_
     rotate_left
     ·intro w'
      go_simp
      with_reducible rfl
     rotate_left
     ·simp only [Act.put, List.setIfInBounds_toArray, List.set_cons_zero, List.set_cons_succ, i64_w, i32_w]
      rfl
     refine take_ (i := 2) (N := some 33) (v := ?_) (a' := ?_) #[true, true, true, false, true, false, true, false, false, false, false, false, false, false, false, false, false] rfl rfl (take_ofW HT_.out HW_.out (by kernel_rfl)) (fun _ _ _ h => h) (Or.inl ⟨by rfl, ?_⟩) hHeld ?_ ?_
     rotate_left
     ·intro w' s0
      (try simp only [Int.toNat_natCast] at s0)
      go_simp
      with_reducible rfl
     rotate_left
     ·simp only [Act.put, List.setIfInBounds_toArray, List.set_cons_zero, List.set_cons_succ, i64_w, i32_w]
      rfl
     refine pure_ (i := 3) (N := some 34) (v := ?_) (a' := ?_) #[true, true, true, true, true, false, true, false, false, false, false, false, false, false, false, false, false] rfl rfl (any_of HT_.out (by kernel_rfl)) (fun _ _ _ h => h) (Or.inl ⟨by rfl, ?_⟩) ?_ ?_
     rotate_left
     ·intro w'
      go_simp
      with_reducible rfl
     rotate_left
     ·simp only [Act.put, List.setIfInBounds_toArray, List.set_cons_zero, List.set_cons_succ, i64_w, i32_w]
      rfl
     refine take_ (i := 7) (N := some 38) (v := ?_) (a' := ?_) #[true, true, true, true, true, false, true, true, false, false, false, false, false, false, false, false, false] rfl rfl (take_ofW HT_.out HW_.out (by kernel_rfl)) (fun _ _ _ h => h) (Or.inl ⟨by rfl, ?_⟩) hHeld ?_ ?_
     rotate_left
     ·intro w' s0
      (try simp only [Int.toNat_natCast] at s0)
      go_simp
      with_reducible rfl
     rotate_left
     ·simp only [Act.put, List.setIfInBounds_toArray, List.set_cons_zero, List.set_cons_succ, i64_w, i32_w]
      rfl
     refine pure_ (i := 8) (N := some 39) (v := ?_) (a' := ?_) #[true, true, true, true, true, false, true, true, true, false, false, false, false, false, false, false, false] rfl rfl (any_of HT_.out (by kernel_rfl)) (fun _ _ _ h => h) (Or.inl ⟨by rfl, ?_⟩) ?_ ?_
     rotate_left
     ·intro w'
      go_simp
      with_reducible rfl
     rotate_left
     ·simp only [Act.put, List.setIfInBounds_toArray, List.set_cons_zero, List.set_cons_succ, i64_w, i32_w]
      rfl
     refine one_ (i := 5) (N := some 36) #[true, true, true, true, true, true, true, true, true, false, false, false, false, false, false, false, false] rfl rfl (one_of HT_.out (by kernel_rfl)) (by decide) (fun K hK => ?_)
     refine goes_ Tryd.func35 (by kernel_rfl) rfl #[.int .i64 (l1.length : Int), .int .i64 (l0.length : Int), .func (.func 46) #[] #[.pointer (some ⟨gb194, 0, none⟩)]] (by rfl) rfl rfl (by (try simp only [List.map_toArray, List.map_cons, List.map_nil]); first | done | rfl | (simp only [List.length_drop, List.length_take]; rfl)) ?_
     with_reducible refine (grid_46.calls gb194 (l1.length : Int) (l0.length : Int) A0 c0 l0 t197 _ ?side1 ?side2 ?side3 A15.out).mono ?_
     (case side1 => (with_reducible repeat (first | refine blk_drewN ?_ _ | refine blk_drew ?_ | refine blk_alloc ?_ _)); exact BK194.out)
     (case side2 => repeat (first | exact (Kd.C_below HR0.out HB.out) | (with_reducible refine Kd.C_alloc ?_ _) | (with_reducible refine Kd.C_drewN ?_ _) | (with_reducible refine Kd.C_drew ?_)))
     (case side3 => exact HC0.out)
     rintro e w19 ⟨v198, rfl, ho0, hb⟩
     refine ⟨_, rfl, ?_⟩
     have n0_ := Aside0.mk (Kd.S_lower ho0 (below_size (by repeat (first | (with_reducible first | exact HB.out | apply below_alloc | apply pw_below_drewN | apply below_drew1 | refine below_set ?_ GE194.out) | exact HB.out))))
     have n1_ := Aside0.mk (blk_below (g := gb194) (o := .cells #[.slice A0 l0.length c0] 22 (0, 0)) (by (with_reducible repeat (first | refine blk_drewN ?_ _ | refine blk_drew ?_ | refine blk_alloc ?_ _)); exact BK194.out) hb)
     have n2_ := Aside0.mk (below_step (by repeat (first | (with_reducible first | exact HB.out | apply below_alloc | apply pw_below_drewN | apply below_drew1 | refine below_set ?_ GE194.out) | exact HB.out)) hb)
     clear BK194
     clear HB
     have HO199 := n0_
     have BK194 := n1_
     have HB := n2_
     clear n0_ n1_ n2_
     (try clear hb)
     (try clear hb2)
     (try clear hk)
     (try clear hi)
     (try clear ho0)
     obtain ⟨Ao20, co20, eo20⟩ := Kd.S_slice HO199.out
     (first | subst eo20 | (injection eo20 with f1_ f2_ f3_; have f4_ := f1_.symm; have f5_ := f3_.symm; clear f1_ f2_ f3_; subst f4_; subst f5_))
     refine hK.out _ _ ((blk_cell BK194.out 0).trans rfl) (fun hHeld => ?_)
     clear hK K
     refine norm_ (a' := ?_) ?_ ?_
     rotate_left
     ·show Act.put _ (some 36) _ = _
      simp only [Act.put, List.setIfInBounds_toArray, List.set_cons_zero, List.set_cons_succ, i64_w, i32_w]
      rfl
     refine one_ (i := 9) (N := some 40) #[true, true, true, true, true, true, true, true, true, true, false, false, false, false, false, false, false] rfl rfl (one_of HT_.out (by kernel_rfl)) (by decide) (fun K hK => ?_)
     refine goes_ Tryd.func42 (by kernel_rfl) rfl #[.slice Ao20 t197.length co20, .slice A1 l1.length c1, .int .i64 (l0.length : Int)] (by rfl) rfl rfl (by (try simp only [List.map_toArray, List.map_cons, List.map_nil]); first | done | rfl | (simp only [List.length_drop, List.length_take]; rfl)) ?_
     with_reducible refine (matrix_solve.calls kj4 _ _ t197 _ _ l1 (l0.length : Int) t200 t201 true _ ?side1 ?side2 ?side3 ?side4 ?side5 A16.out).mono ?_
     (case side1 => first | (with_reducible exact HG.out) | (with_reducible exact HighIn.drewN HG.out _) | exact HighIn.below HG.out (by repeat (first | (with_reducible first | exact HB.out | apply below_alloc | apply pw_below_drewN | apply below_drew1 | refine below_set ?_ GE194.out) | exact HB.out)) | ((repeat (first | (with_reducible exact HG.out) | (with_reducible apply HighIn.drewN) | (with_reducible apply HighIn.drew) | (with_reducible apply HighIn.alloc))); done))
     (case side2 => repeat (first | exact (Kd.S_reads' HO199.out).2.2 | (with_reducible refine Kd.C_alloc ?_ _) | (with_reducible refine Kd.C_drewN ?_ _) | (with_reducible refine Kd.C_drew ?_)))
     (case side3 => exact (Kd.S_reads' HO199.out).2.1)
     (case side4 => repeat (first | exact (Kd.C_below HR1.out HB.out) | (with_reducible refine Kd.C_alloc ?_ _) | (with_reducible refine Kd.C_drewN ?_ _) | (with_reducible refine Kd.C_drew ?_)))
     (case side5 => exact HC1.out)
     rintro e w21 ⟨v203, v205, rfl, ho0, ho1, hb⟩
     refine ⟨_, rfl, ?_⟩
     have n0_ := Aside0.mk (Kd.S_mono (Kd.S_told (Kd.S_told (Kd.S_old (by (with_reducible repeat (first | apply Kd.S_alloc | apply Kd.S_drewN | apply Kd.S_drew)); exact HO199.out) hb) (Kd.R_base ho0)) (Kd.S_base ho1)) (fun _ h_ => h_.1))
     have n1_ := Aside0.mk (Kd.R_lower ho0 (below_size (by repeat (first | (with_reducible first | exact HB.out | apply below_alloc | apply pw_below_drewN | apply below_drew1 | refine below_set ?_ GE194.out) | exact HB.out))))
     have n2_ := Aside0.mk (Kd.S_lower (Kd.S_new' ho1 (Kd.S_lt (by (with_reducible repeat (first | apply Kd.S_alloc | apply Kd.S_drewN | apply Kd.S_drew)); exact HO199.out))) (below_size (by repeat (first | (with_reducible first | exact HB.out | apply below_alloc | apply pw_below_drewN | apply below_drew1 | refine below_set ?_ GE194.out) | exact HB.out))))
     have n3_ := Aside0.mk (blk_below (g := gb194) (o := .cells #[.slice A0 l0.length c0] 22 (0, 0)) (by (with_reducible repeat (first | refine blk_drewN ?_ _ | refine blk_drew ?_ | refine blk_alloc ?_ _)); exact BK194.out) hb)
     have n4_ := Aside0.mk (below_step (by repeat (first | (with_reducible first | exact HB.out | apply below_alloc | apply pw_below_drewN | apply below_drew1 | refine below_set ?_ GE194.out) | exact HB.out)) hb)
     clear HO199
     clear BK194
     clear HB
     have HO199 := n0_
     have HO204 := n1_
     have HO206 := n2_
     have BK194 := n3_
     have HB := n4_
     clear n0_ n1_ n2_ n3_ n4_
     (try clear hb)
     (try clear hb2)
     (try clear hk)
     (try clear hi)
     (try clear ho0)
     (try clear ho1)
     refine hK.out _ _ ((blk_cell BK194.out 0).trans rfl) (fun hHeld => ?_)
     clear hK K
     refine norm_ (a' := ?_) ?_ ?_
     rotate_left
     ·show Act.put _ (some 40) _ = _
      simp only [Act.put, List.setIfInBounds_toArray, List.set_cons_zero, List.set_cons_succ, i64_w, i32_w]
      rfl
     refine pure_ (i := 10) (N := some 30) (v := ?_) (a' := ?_) #[true, true, true, true, true, true, true, true, true, true, true, false, false, false, false, false, false] rfl rfl (any_of HT_.out (by kernel_rfl)) (fun _ _ _ h => h) (Or.inl ⟨by rfl, ?_⟩) ?_ ?_
     rotate_left
     ·intro w'
      go_simp
      with_reducible rfl
     rotate_left
     ·simp only [Act.put, List.setIfInBounds_toArray, List.set_cons_zero, List.set_cons_succ, i64_w, i32_w]
      rfl
     refine pure_ (i := 11) (N := some 41) (v := ?_) (a' := ?_) #[true, true, true, true, true, true, true, true, true, true, true, true, false, false, false, false, false] rfl rfl (any_of HT_.out (by kernel_rfl)) (fun _ _ _ h => h) (Or.inl ⟨by rfl, ?_⟩) ?_ ?_
     rotate_left
     ·intro w'
      go_simp
      with_reducible rfl
     rotate_left
     ·simp only [Act.put, List.setIfInBounds_toArray, List.set_cons_zero, List.set_cons_succ, i64_w, i32_w]
      rfl
     refine pure_ (i := 12) (N := some 42) (v := ?_) (a' := ?_) #[true, true, true, true, true, true, true, true, true, true, true, true, true, false, false, false, false] rfl rfl (any_of HT_.out (by kernel_rfl)) (fun _ _ _ h => h) (Or.inl ⟨by rfl, ?_⟩) ?_ ?_
     rotate_left
     ·intro w'
      go_simp
      with_reducible rfl
     rotate_left
     ·simp only [Act.put, List.setIfInBounds_toArray, List.set_cons_zero, List.set_cons_succ, i64_w, i32_w]
      rfl
     refine pure_ (i := 13) (N := some 43) (v := ?_) (a' := ?_) #[true, true, true, true, true, true, true, true, true, true, true, true, true, true, false, false, false] rfl rfl (any_of HT_.out (by kernel_rfl)) (fun _ _ _ h => h) (Or.inl ⟨by rfl, ?_⟩) ?_ ?_
     rotate_left
     ·intro w'
      go_simp
      with_reducible rfl
     rotate_left
     ·simp only [Act.put, List.setIfInBounds_toArray, List.set_cons_zero, List.set_cons_succ, i64_w, i32_w]
      rfl
     refine pure_ (i := 14) (N := some 7) (v := ?_) (a' := ?_) #[true, true, true, true, true, true, true, true, true, true, true, true, true, true, true, false, false] rfl rfl (any_of HT_.out (by kernel_rfl)) (fun _ _ _ h => h) (Or.inl ⟨by rfl, ?_⟩) ?_ ?_
     rotate_left
     ·intro w'
      go_simp
      with_reducible rfl
     rotate_left
     ·simp only [Act.put, List.setIfInBounds_toArray, List.set_cons_zero, List.set_cons_succ, i64_w, i32_w]
      rfl
     refine pure_ (i := 15) (N := some 8) (v := ?_) (a' := ?_) #[true, true, true, true, true, true, true, true, true, true, true, true, true, true, true, true, false] rfl rfl (any_of HT_.out (by kernel_rfl)) (fun _ _ _ h => h) (Or.inl ⟨by rfl, ?_⟩) ?_ ?_
     rotate_left
     ·intro w'
      go_simp
      with_reducible rfl
     rotate_left
     ·simp only [Act.put, List.setIfInBounds_toArray, List.set_cons_zero, List.set_cons_succ, i64_w, i32_w]
      rfl
     refine pure_ (i := 16) (N := some 9) (v := ?_) (a' := ?_) #[true, true, true, true, true, true, true, true, true, true, true, true, true, true, true, true, true] rfl rfl (any_of HT_.out (by kernel_rfl)) (fun _ _ _ h => h) (Or.inl ⟨by rfl, ?_⟩) ?_ ?_
     rotate_left
     ·intro w'
      go_simp
      with_reducible rfl
     rotate_left
     ·simp only [Act.put, List.setIfInBounds_toArray, List.set_cons_zero, List.set_cons_succ, i64_w, i32_w]
      rfl
     refine done_ (done_of HT_.out (by kernel_rfl)) ?_
     try go_wp2
     go_ret2
     exact ⟨_, by first | rfl | (simp [errW_none, errW_some] <;> rfl) | (simp [*, errW_none, errW_some] <;> rfl), by (with_reducible repeat (first | apply Kd.R_alloc | apply Kd.R_drewN | apply Kd.R_drew)); exact HO204.out, by repeat (first | (with_reducible first | exact HB.out | apply below_alloc | apply pw_below_drewN | apply below_drew1 | refine below_set ?_ GE194.out) | exact HB.out)⟩
    ·replace c17 := Bool.eq_false_iff.mpr c17
     subst c17
     have H1 : (some (([] : List Int), 8)) = some (r1, r2) := by rw [if_neg (show ¬ (false = true) by decide)] at H; exact H
     clear H
     have H := H1
     clear H1
     simp only [Option.some.injEq, Prod.mk.injEq] at H
     obtain ⟨rfl, rfl⟩ := H
     try go_wp2
     have n0_ := Aside0.mk (blk_drew BK194.out)
     have n1_ := Aside0.mk (below_drew1 HB.out)
     clear BK194
     clear HB
     have BK194 := n0_
     have HB := n1_
     clear n0_ n1_
     refine start_ (n := 17) (S := fun w' => w'.cell? ⟨gb194, 0, none⟩ = some (.slice A0 l0.length c0)) (ds := []) #[false, false, false, false, false, false, false, false, false, false, false, false, false, false, false, false, false] (by kernel_rfl) rfl rfl ((blk_cell BK194.out 0).trans rfl) (fun hHeld => ?_); refine with_tabW matrix_Express.tab8 matrix_Express.bits8 (fun HT_ HW_ => ?_)
     generalize wc.drew = w22 at BK194 HB hHeld ⊢
     refine pure_ (i := 0) (N := some 31) (v := ?_) (a' := ?_) #[true, false, false, false, false, false, false, false, false, false, false, false, false, false, false, false, false] rfl rfl (any_of HT_.out (by kernel_rfl)) (fun _ _ _ h => h) (Or.inl ⟨by rfl, ?_⟩) ?_ ?_
     rotate_left
     ·intro w'
      go_simp
      with_reducible rfl
     rotate_left
     ·simp only [Act.put, List.setIfInBounds_toArray, List.set_cons_zero, List.set_cons_succ, i64_w, i32_w]
      rfl
     refine pure_ (i := 1) (N := some 32) (v := ?_) (a' := ?_) #[true, true, false, false, false, false, false, false, false, false, false, false, false, false, false, false, false] rfl rfl (any_of HT_.out (by kernel_rfl)) (fun _ _ _ h => h) (Or.inl ⟨by rfl, ?_⟩) ?_ ?_
     rotate_left
     ·intro w'
      go_simp
      with_reducible rfl
     rotate_left
     ·simp only [Act.put, List.setIfInBounds_toArray, List.set_cons_zero, List.set_cons_succ, i64_w, i32_w]
      rfl
     refine pure_ (i := 4) (N := some 35) (v := ?_) (a' := ?_) #[true, true, false, false, true, false, false, false, false, false, false, false, false, false, false, false, false] rfl rfl (any_of HT_.out (by kernel_rfl)) (fun _ _ _ h => h) (Or.inl ⟨by rfl, ?_⟩) ?_ ?_
     rotate_left
     ·intro w'
      go_simp
      with_reducible rfl
     rotate_left
     ·simp only [Act.put, List.setIfInBounds_toArray, List.set_cons_zero, List.set_cons_succ, i64_w, i32_w]
      rfl
     refine pure_ (i := 6) (N := some 37) (v := ?_) (a' := ?_) #[true, true, false, false, true, false, true, false, false, false, false, false, false, false, false, false, false] rfl rfl (any_of HT_.out (by kernel_rfl)) (fun _ _ _ h => h) (Or.inl ⟨by rfl, ?_⟩) ?_ ?_
     rotate_left
     ·intro w'
      go_simp
      with_reducible rfl
     rotate_left
     ·simp only [Act.put, List.setIfInBounds_toArray, List.set_cons_zero, List.set_cons_succ, i64_w, i32_w]
      rfl
     refine take_ (i := 2) (N := some 33) (v := ?_) (a' := ?_) #[true, true, true, false, true, false, true, false, false, false, false, false, false, false, false, false, false] rfl rfl (take_ofW HT_.out HW_.out (by kernel_rfl)) (fun _ _ _ h => h) (Or.inl ⟨by rfl, ?_⟩) hHeld ?_ ?_
     rotate_left
     ·intro w' s0
      (try simp only [Int.toNat_natCast] at s0)
      go_simp
      with_reducible rfl
     rotate_left
     ·simp only [Act.put, List.setIfInBounds_toArray, List.set_cons_zero, List.set_cons_succ, i64_w, i32_w]
      rfl
     refine pure_ (i := 3) (N := some 34) (v := ?_) (a' := ?_) #[true, true, true, true, true, false, true, false, false, false, false, false, false, false, false, false, false] rfl rfl (any_of HT_.out (by kernel_rfl)) (fun _ _ _ h => h) (Or.inl ⟨by rfl, ?_⟩) ?_ ?_
     rotate_left
     ·intro w'
      go_simp
      with_reducible rfl
     rotate_left
     ·simp only [Act.put, List.setIfInBounds_toArray, List.set_cons_zero, List.set_cons_succ, i64_w, i32_w]
      rfl
     refine take_ (i := 7) (N := some 38) (v := ?_) (a' := ?_) #[true, true, true, true, true, false, true, true, false, false, false, false, false, false, false, false, false] rfl rfl (take_ofW HT_.out HW_.out (by kernel_rfl)) (fun _ _ _ h => h) (Or.inl ⟨by rfl, ?_⟩) hHeld ?_ ?_
     rotate_left
     ·intro w' s0
      (try simp only [Int.toNat_natCast] at s0)
      go_simp
      with_reducible rfl
     rotate_left
     ·simp only [Act.put, List.setIfInBounds_toArray, List.set_cons_zero, List.set_cons_succ, i64_w, i32_w]
      rfl
     refine pure_ (i := 8) (N := some 39) (v := ?_) (a' := ?_) #[true, true, true, true, true, false, true, true, true, false, false, false, false, false, false, false, false] rfl rfl (any_of HT_.out (by kernel_rfl)) (fun _ _ _ h => h) (Or.inl ⟨by rfl, ?_⟩) ?_ ?_
     rotate_left
     ·intro w'
      go_simp
      with_reducible rfl
     rotate_left
     ·simp only [Act.put, List.setIfInBounds_toArray, List.set_cons_zero, List.set_cons_succ, i64_w, i32_w]
      rfl
     refine one_ (i := 5) (N := some 36) #[true, true, true, true, true, true, true, true, true, false, false, false, false, false, false, false, false] rfl rfl (one_of HT_.out (by kernel_rfl)) (by decide) (fun K hK => ?_)
     refine goes_ Tryd.func35 (by kernel_rfl) rfl #[.int .i64 (l1.length : Int), .int .i64 (l0.length : Int), .func (.func 46) #[] #[.pointer (some ⟨gb194, 0, none⟩)]] (by rfl) rfl rfl (by (try simp only [List.map_toArray, List.map_cons, List.map_nil]); first | done | rfl | (simp only [List.length_drop, List.length_take]; rfl)) ?_
     with_reducible refine (grid_46.calls gb194 (l1.length : Int) (l0.length : Int) A0 c0 l0 t197 _ ?side1 ?side2 ?side3 A15.out).mono ?_
     (case side1 => (with_reducible repeat (first | refine blk_drewN ?_ _ | refine blk_drew ?_ | refine blk_alloc ?_ _)); exact BK194.out)
     (case side2 => repeat (first | exact (Kd.C_below HR0.out HB.out) | (with_reducible refine Kd.C_alloc ?_ _) | (with_reducible refine Kd.C_drewN ?_ _) | (with_reducible refine Kd.C_drew ?_)))
     (case side3 => exact HC0.out)
     rintro e w23 ⟨v198, rfl, ho0, hb⟩
     refine ⟨_, rfl, ?_⟩
     have n0_ := Aside0.mk (Kd.S_lower ho0 (below_size (by repeat (first | (with_reducible first | exact HB.out | apply below_alloc | apply pw_below_drewN | apply below_drew1 | refine below_set ?_ GE194.out) | exact HB.out))))
     have n1_ := Aside0.mk (blk_below (g := gb194) (o := .cells #[.slice A0 l0.length c0] 22 (0, 0)) (by (with_reducible repeat (first | refine blk_drewN ?_ _ | refine blk_drew ?_ | refine blk_alloc ?_ _)); exact BK194.out) hb)
     have n2_ := Aside0.mk (below_step (by repeat (first | (with_reducible first | exact HB.out | apply below_alloc | apply pw_below_drewN | apply below_drew1 | refine below_set ?_ GE194.out) | exact HB.out)) hb)
     clear BK194
     clear HB
     have HO199 := n0_
     have BK194 := n1_
     have HB := n2_
     clear n0_ n1_ n2_
     (try clear hb)
     (try clear hb2)
     (try clear hk)
     (try clear hi)
     (try clear ho0)
     obtain ⟨Ao24, co24, eo24⟩ := Kd.S_slice HO199.out
     (first | subst eo24 | (injection eo24 with f1_ f2_ f3_; have f4_ := f1_.symm; have f5_ := f3_.symm; clear f1_ f2_ f3_; subst f4_; subst f5_))
     refine hK.out _ _ ((blk_cell BK194.out 0).trans rfl) (fun hHeld => ?_)
     clear hK K
     refine norm_ (a' := ?_) ?_ ?_
     rotate_left
     ·show Act.put _ (some 36) _ = _
      simp only [Act.put, List.setIfInBounds_toArray, List.set_cons_zero, List.set_cons_succ, i64_w, i32_w]
      rfl
     refine one_ (i := 9) (N := some 40) #[true, true, true, true, true, true, true, true, true, true, false, false, false, false, false, false, false] rfl rfl (one_of HT_.out (by kernel_rfl)) (by decide) (fun K hK => ?_)
     refine goes_ Tryd.func42 (by kernel_rfl) rfl #[.slice Ao24 t197.length co24, .slice A1 l1.length c1, .int .i64 (l0.length : Int)] (by rfl) rfl rfl (by (try simp only [List.map_toArray, List.map_cons, List.map_nil]); first | done | rfl | (simp only [List.length_drop, List.length_take]; rfl)) ?_
     with_reducible refine (matrix_solve.calls kj4 _ _ t197 _ _ l1 (l0.length : Int) t200 t201 false _ ?side1 ?side2 ?side3 ?side4 ?side5 A16.out).mono ?_
     (case side1 => first | (with_reducible exact HG.out) | (with_reducible exact HighIn.drewN HG.out _) | exact HighIn.below HG.out (by repeat (first | (with_reducible first | exact HB.out | apply below_alloc | apply pw_below_drewN | apply below_drew1 | refine below_set ?_ GE194.out) | exact HB.out)) | ((repeat (first | (with_reducible exact HG.out) | (with_reducible apply HighIn.drewN) | (with_reducible apply HighIn.drew) | (with_reducible apply HighIn.alloc))); done))
     (case side2 => repeat (first | exact (Kd.S_reads' HO199.out).2.2 | (with_reducible refine Kd.C_alloc ?_ _) | (with_reducible refine Kd.C_drewN ?_ _) | (with_reducible refine Kd.C_drew ?_)))
     (case side3 => exact (Kd.S_reads' HO199.out).2.1)
     (case side4 => repeat (first | exact (Kd.C_below HR1.out HB.out) | (with_reducible refine Kd.C_alloc ?_ _) | (with_reducible refine Kd.C_drewN ?_ _) | (with_reducible refine Kd.C_drew ?_)))
     (case side5 => exact HC1.out)
     rintro e w25 ⟨v203, v205, rfl, ho0, ho1, hb⟩
     refine ⟨_, rfl, ?_⟩
     have n0_ := Aside0.mk (Kd.S_mono (Kd.S_told (Kd.S_told (Kd.S_old (by (with_reducible repeat (first | apply Kd.S_alloc | apply Kd.S_drewN | apply Kd.S_drew)); exact HO199.out) hb) (Kd.R_base ho0)) (Kd.S_base ho1)) (fun _ h_ => h_.1))
     have n1_ := Aside0.mk (Kd.R_lower ho0 (below_size (by repeat (first | (with_reducible first | exact HB.out | apply below_alloc | apply pw_below_drewN | apply below_drew1 | refine below_set ?_ GE194.out) | exact HB.out))))
     have n2_ := Aside0.mk (Kd.S_lower (Kd.S_new' ho1 (Kd.S_lt (by (with_reducible repeat (first | apply Kd.S_alloc | apply Kd.S_drewN | apply Kd.S_drew)); exact HO199.out))) (below_size (by repeat (first | (with_reducible first | exact HB.out | apply below_alloc | apply pw_below_drewN | apply below_drew1 | refine below_set ?_ GE194.out) | exact HB.out))))
     have n3_ := Aside0.mk (blk_below (g := gb194) (o := .cells #[.slice A0 l0.length c0] 22 (0, 0)) (by (with_reducible repeat (first | refine blk_drewN ?_ _ | refine blk_drew ?_ | refine blk_alloc ?_ _)); exact BK194.out) hb)
     have n4_ := Aside0.mk (below_step (by repeat (first | (with_reducible first | exact HB.out | apply below_alloc | apply pw_below_drewN | apply below_drew1 | refine below_set ?_ GE194.out) | exact HB.out)) hb)
     clear HO199
     clear BK194
     clear HB
     have HO199 := n0_
     have HO204 := n1_
     have HO206 := n2_
     have BK194 := n3_
     have HB := n4_
     clear n0_ n1_ n2_ n3_ n4_
     (try clear hb)
     (try clear hb2)
     (try clear hk)
     (try clear hi)
     (try clear ho0)
     (try clear ho1)
     refine hK.out _ _ ((blk_cell BK194.out 0).trans rfl) (fun hHeld => ?_)
     clear hK K
     refine norm_ (a' := ?_) ?_ ?_
     rotate_left
     ·show Act.put _ (some 40) _ = _
      simp only [Act.put, List.setIfInBounds_toArray, List.set_cons_zero, List.set_cons_succ, i64_w, i32_w]
      rfl
     refine pure_ (i := 10) (N := some 30) (v := ?_) (a' := ?_) #[true, true, true, true, true, true, true, true, true, true, true, false, false, false, false, false, false] rfl rfl (any_of HT_.out (by kernel_rfl)) (fun _ _ _ h => h) (Or.inl ⟨by rfl, ?_⟩) ?_ ?_
     rotate_left
     ·intro w'
      go_simp
      with_reducible rfl
     rotate_left
     ·simp only [Act.put, List.setIfInBounds_toArray, List.set_cons_zero, List.set_cons_succ, i64_w, i32_w]
      rfl
     refine pure_ (i := 11) (N := some 41) (v := ?_) (a' := ?_) #[true, true, true, true, true, true, true, true, true, true, true, true, false, false, false, false, false] rfl rfl (any_of HT_.out (by kernel_rfl)) (fun _ _ _ h => h) (Or.inl ⟨by rfl, ?_⟩) ?_ ?_
     rotate_left
     ·intro w'
      go_simp
      with_reducible rfl
     rotate_left
     ·simp only [Act.put, List.setIfInBounds_toArray, List.set_cons_zero, List.set_cons_succ, i64_w, i32_w]
      rfl
     refine pure_ (i := 12) (N := some 42) (v := ?_) (a' := ?_) #[true, true, true, true, true, true, true, true, true, true, true, true, true, false, false, false, false] rfl rfl (any_of HT_.out (by kernel_rfl)) (fun _ _ _ h => h) (Or.inl ⟨by rfl, ?_⟩) ?_ ?_
     rotate_left
     ·intro w'
      go_simp
      with_reducible rfl
     rotate_left
     ·simp only [Act.put, List.setIfInBounds_toArray, List.set_cons_zero, List.set_cons_succ, i64_w, i32_w]
      rfl
     refine pure_ (i := 13) (N := some 43) (v := ?_) (a' := ?_) #[true, true, true, true, true, true, true, true, true, true, true, true, true, true, false, false, false] rfl rfl (any_of HT_.out (by kernel_rfl)) (fun _ _ _ h => h) (Or.inl ⟨by rfl, ?_⟩) ?_ ?_
     rotate_left
     ·intro w'
      go_simp
      with_reducible rfl
     rotate_left
     ·simp only [Act.put, List.setIfInBounds_toArray, List.set_cons_zero, List.set_cons_succ, i64_w, i32_w]
      rfl
     refine pure_ (i := 14) (N := some 7) (v := ?_) (a' := ?_) #[true, true, true, true, true, true, true, true, true, true, true, true, true, true, true, false, false] rfl rfl (any_of HT_.out (by kernel_rfl)) (fun _ _ _ h => h) (Or.inl ⟨by rfl, ?_⟩) ?_ ?_
     rotate_left
     ·intro w'
      go_simp
      with_reducible rfl
     rotate_left
     ·simp only [Act.put, List.setIfInBounds_toArray, List.set_cons_zero, List.set_cons_succ, i64_w, i32_w]
      rfl
     refine pure_ (i := 15) (N := some 8) (v := ?_) (a' := ?_) #[true, true, true, true, true, true, true, true, true, true, true, true, true, true, true, true, false] rfl rfl (any_of HT_.out (by kernel_rfl)) (fun _ _ _ h => h) (Or.inl ⟨by rfl, ?_⟩) ?_ ?_
     rotate_left
     ·intro w'
      go_simp
      with_reducible rfl
     rotate_left
     ·simp only [Act.put, List.setIfInBounds_toArray, List.set_cons_zero, List.set_cons_succ, i64_w, i32_w]
      rfl
     refine pure_ (i := 16) (N := some 9) (v := ?_) (a' := ?_) #[true, true, true, true, true, true, true, true, true, true, true, true, true, true, true, true, true] rfl rfl (any_of HT_.out (by kernel_rfl)) (fun _ _ _ h => h) (Or.inl ⟨by rfl, ?_⟩) ?_ ?_
     rotate_left
     ·intro w'
      go_simp
      with_reducible rfl
     rotate_left
     ·simp only [Act.put, List.setIfInBounds_toArray, List.set_cons_zero, List.set_cons_succ, i64_w, i32_w]
      rfl
     refine done_ (done_of HT_.out (by kernel_rfl)) ?_
     try go_wp2
     go_ret2
     exact ⟨_, by first | rfl | (simp [errW_none, errW_some] <;> rfl) | (simp [*, errW_none, errW_some] <;> rfl), by first | exact Kd.R_nil _ _ _ _ _ | exact Kd.N_nil _ _ _ _ _ | exact Kd.V_nil _ _ _ _ _ | exact Kd.Q_nil _ _ _ _ _ | exact Kd.S_nil _ _ _ _ _, by repeat (first | (with_reducible first | exact HB.out | apply below_alloc | apply pw_below_drewN | apply below_drew1 | refine below_set ?_ GE194.out) | exact HB.out)⟩
 ·rw [if_neg c4] at H
  have c4b0 : (t195 == 0) = false := beq_eq_false_iff_ne.mpr c4
  have c4b1 : (t195 != 0) = true := bne_iff_ne.mpr c4
  simp only [Option.some.injEq, Prod.mk.injEq] at H
  obtain ⟨rfl, rfl⟩ := H
  go_enter Tryd.func25, Tryd.ntmps25
  go_wp2_with (first | ((with_reducible refine gate_dst (N := 2) rfl ?_); (try (refine gate_guard (by rfl) ?_; dsimp only)); refine box_event ?hg (N := 2) ?hd (cs := #[.slice A0 l0.length c0]) (t := 22) ?hr ?_; (case hd => rfl); (case hg => rfl); (case hr => first | (go_simp; done) | (go_simp; rfl)); intro gb194 hg w26 hbox hb; have n0_ := Aside0.mk (below_step (by repeat (first | (with_reducible first | exact HB.out | apply below_alloc | apply pw_below_drewN | apply below_drew1) | exact HB.out)) hb); have n1_ := Aside0.mk (hbox); have n2_ := Aside0.mk ((by rw [hg]; exact (below_size (by repeat (first | (with_reducible first | exact HB.out | apply below_alloc | apply pw_below_drewN | apply below_drew1) | exact HB.out))) : w.heap.size ≤ gb194)); have n3_ := Aside0.mk ((by rw [hg]; exact (below_size (by repeat (first | (with_reducible first | exact HB.out | apply below_alloc | apply pw_below_drewN | apply below_drew1) | exact HB.out))) : w.heap.size ≤ gb194)); clear HB; have HB := n0_; have BK194 := n1_; have GW194 := n2_; have GE194 := n3_; clear n0_ n1_ n2_ n3_; clear hb hbox hg; have hcz27_0 : w26.cell? ⟨gb194, 0, none⟩ = some (.slice A0 l0.length c0) := (blk_cell BK194.out 0).trans rfl; have hfz27_0 := blk_frozen BK194.out 0) | ((with_reducible refine gate_callee (f := 16) rfl ?_); refine goesL_ (some 11) rfl rfl Tryd.func16 (by kernel_rfl) rfl #[.slice A0 l0.length c0] rfl (by (try simp only [List.map_toArray, List.map_cons, List.map_nil]); first | done | rfl | (simp only [List.length_drop, List.length_take]; rfl)) ?_; (with_reducible refine (matrix_Check.calls k _ _ l0 t195 _ ?side1 ?side2 A3.out).mono ?_); (case side1 => repeat (first | exact (Kd.C_below HR0.out HB.out) | (with_reducible refine Kd.C_alloc ?_ _) | (with_reducible refine Kd.C_drewN ?_ _) | (with_reducible refine Kd.C_drew ?_))); (case side2 => exact HC0.out); rintro e w' ⟨rfl, ⟨nd, rfl⟩⟩; refine ⟨_, rfl, ?_⟩))
  go_ret2
  exact ⟨_, by first | rfl | (simp [errW_none, errW_some] <;> rfl) | (simp [*, errW_none, errW_some] <;> rfl), by first | exact Kd.R_nil _ _ _ _ _ | exact Kd.N_nil _ _ _ _ _ | exact Kd.V_nil _ _ _ _ _ | exact Kd.Q_nil _ _ _ _ _ | exact Kd.S_nil _ _ _ _ _, by repeat (first | (with_reducible first | exact HB.out | apply below_alloc | apply pw_below_drewN | apply below_drew1 | refine below_set ?_ GE194.out) | exact HB.out)⟩
end Go.Proofs.YtijebgceopddmaaDoor.Pa
end
section
namespace Go.Proofs.YtijebgceopddmaaDoor.Pa
open Go.RowKit Go.Proofs.YtijebgceopddmaaDoor.Gf Go.Proofs.YtijebgceopddmaaDoor.Pr Go.Proofs.YtijebgceopddmaaDoorW.PrintWords Go.Proofs.YtijebgceopddmaaDoorW.PrintLast Go.Proofs.YtijebgceopddmaaDoorW.PrintMore
attribute [local go_sem] max2_int min2_int max_two min_two max_three min_three max_four min_four   -- for this text's walks alone
set_option linter.unusedVariables false
set_option linter.unusedSimpArgs false
def matrix_Product.l0 : Nat → List (List (List Int)) → Int → Int → List (List Int) → List (List Int) → Option ((List (List Int)) × Int)
 | 0, _, _, _, _, _ => none
 | k + 1, x11, x12, x13, x208000, x209000 => if x13 < x12 then (if 0 ≤ x13 then (if x13 < (x11.length : Int) then ((matrix_Check.f k (rd_L4 x11 x13)).bind fun t213 => (if t213 = 0 then (matrix_Product.l0 k x11 x12 (wrap64 (x13 + 1)) x208000 x209000) else (some (([] : List (List Int)), t213)))) else (none)) else (none)) else ((matrix_columns.f x208000).bind fun t214 => (if t214 = (x209000.length : Int) then ((matrix_columns.f x209000).bind fun t215 => ((grid_47.f (x208000.length : Int) t215 x208000 x209000).bind fun t216 => (some (t216, 0)))) else (some (([] : List (List Int)), 1))))
def matrix_Product.f (k : Nat) (l0 : List (List Int)) (l1 : List (List Int)) : Option ((List (List Int)) × Int) := (some (([l0, l1] : List (List (List Int))) : List (List (List Int)))).bind fun y209 => (matrix_Product.l0 k y209 (y209.length : Int) 0 l0 l1)
def matrix_Product.T10 : Bool × List (List Nat × List Nat) := (true, [([], []), ([0], [0]), ([], []), ([2], [2]), ([], []), ([1, 3, 4, 3], [1, 3, 4]), ([5, 5, 0, 1, 2, 3, 4, 5], [5]), ([6, 0, 1, 2, 3, 4, 5, 6], [])])
def matrix_Product.B10 : List Nat := [0, 1, 0, 4, 0, 31, 63, 127]
theorem matrix_Product.tab10 : rtab .any (opsOf Tryd.f28 10) = matrix_Product.T10 := by kernel_rfl
theorem matrix_Product.bits10 : waitsOk matrix_Product.T10.2 matrix_Product.B10 = true := by kernel_rfl
set_option maxHeartbeats 8000000 in
set_option maxRecDepth 100000 in
theorem matrix_Product.calls (k : Nat) (P0_ : Nat → Prop) (A0 : Option Addr) (c0 : Nat) (l0 : List (List Int)) (P1_ : Nat → Prop) (A1 : Option Addr) (c1 : Nat) (l1 : List (List Int)) (r1 : List (List Int)) (r2 : Int) (w : World) (hG : HighIn w) (hs0 : Kd.V (Kd.slice 5 (Kd.int .u8)) 43 w w.heap.size (fun k_ => P0_ k_) (.slice A0 l0.length c0) l0) (hs1 : Kd.V (Kd.slice 5 (Kd.int .u8)) 43 w w.heap.size (fun k_ => P1_ k_) (.slice A1 l1.length c1) l1) (h : matrix_Product.f k l0 l1 = some (r1, r2)) :
  Calls Tryd.prog 28 #[.slice A0 l0.length c0, .slice A1 l1.length c1] w fun e w' => ∃ v0_ : Value, e = .returned (.tuple #[v0_, .int .i64 r2]) ∧ Kd.N (Kd.slice 5 (Kd.int .u8)) 43 w' w.heap.size (fun k_ => ((P0_ k_ ∨ P1_ k_) ∨ w.heap.size ≤ k_)) v0_ r1 ∧ Below w.heap.size w w' := by
 have hmf : ∀ (fn : Fn) (first cap : Array Value) (w : World), (Instr.makeFunc fn first cap).run Tryd.prog w = .ok (.func fn first cap) w := fun _ _ _ _ => rfl
 have HG := Aside0.mk hG
 clear hG
 have HO0 := Aside0.mk (show Kd.V (Kd.slice 5 (Kd.int .u8)) 43 w w.heap.size (fun k_ => ((P0_ k_ ∨ P1_ k_) ∨ w.heap.size ≤ k_)) (.slice A0 l0.length c0) l0 from Kd.V_mono hs0 (fun k_ hk => .inl (.inl hk)))
 have HO1 := Aside0.mk (show Kd.V (Kd.slice 5 (Kd.int .u8)) 43 w w.heap.size (fun k_ => ((P0_ k_ ∨ P1_ k_) ∨ w.heap.size ≤ k_)) (.slice A1 l1.length c1) l1 from Kd.V_mono hs1 (fun k_ hk => .inl (.inr hk)))
 have HB := Aside0.mk (Below.refl w.heap.size w)
 have H : ((some (([l0, l1] : List (List (List Int))) : List (List (List Int)))).bind fun y209 => (matrix_Product.l0 k y209 (y209.length : Int) 0 l0 l1)) = some (r1, r2) := h
 clear h
 obtain ⟨y209, hy209⟩ : ∃ y_ : List (List (List Int)), y_ = (([l0, l1] : List (List (List Int)))) := ⟨_, rfl⟩
 replace H : (matrix_Product.l0 k y209 (y209.length : Int) 0 l0 l1) = some (r1, r2) := by first | (rw [hy209]; with_reducible exact H) | (have H2_ := (Option.bind_some _ _).symm.trans H; rw [hy209]; with_reducible exact H2_) | (have H2_ := (Option.bind_some _ _).symm.trans H; with_reducible exact H2_) | with_reducible exact H | (rw [hy209]; exact H) | exact H
 have Ny209 := Aside0.mk hy209
 clear hy209
 have H' := Aside0.mk H
 clear H
 go_enter Tryd.func28, Tryd.ntmps28
 go_wp2_with (first | ((with_reducible refine gate_dst (N := 2) rfl ?_); refine box_event ?hg (N := 2) ?hd (cs := #[.slice A0 l0.length c0]) (t := 22) ?hr ?_; (case hd => rfl); (case hg => rfl); (case hr => first | (go_simp; done) | (go_simp; rfl)); intro gb207 hg w3 hbox hb; have n0_ := Aside0.mk (Kd.V_below (Kd.V_elderB (by (with_reducible repeat (first | apply Kd.V_alloc | apply Kd.V_drewN | apply Kd.V_drew)); exact HO0.out) gb207 (Nat.le_of_eq hg.symm)) hb); have n1_ := Aside0.mk (Kd.V_below (Kd.V_elderB (by (with_reducible repeat (first | apply Kd.V_alloc | apply Kd.V_drewN | apply Kd.V_drew)); exact HO1.out) gb207 (Nat.le_of_eq hg.symm)) hb); have n2_ := Aside0.mk (below_step (by repeat (first | (with_reducible first | exact HB.out | apply below_alloc | apply pw_below_drewN | apply below_drew1) | exact HB.out)) hb); have n3_ := Aside0.mk (hbox); have n4_ := Aside0.mk ((by rw [hg]; exact (below_size (by repeat (first | (with_reducible first | exact HB.out | apply below_alloc | apply pw_below_drewN | apply below_drew1) | exact HB.out))) : w.heap.size ≤ gb207)); have n5_ := Aside0.mk ((by rw [hg]; exact (below_size (by repeat (first | (with_reducible first | exact HB.out | apply below_alloc | apply pw_below_drewN | apply below_drew1) | exact HB.out))) : w.heap.size ≤ gb207)); clear HO0; clear HO1; clear HB; have HO0 := n0_; have HO1 := n1_; have HB := n2_; have BK207 := n3_; have GW207 := n4_; have GE207 := n5_; clear n0_ n1_ n2_ n3_ n4_ n5_; clear hb hbox hg) | ((with_reducible refine gate_dst (N := 3) rfl ?_); refine box_event ?hg (N := 3) ?hd (cs := #[.slice A1 l1.length c1]) (t := 22) ?hr ?_; (case hd => rfl); (case hg => rfl); (case hr => first | (go_simp; done) | (go_simp; rfl)); intro gb208 hg w4 hbox hb; have n0_ := Aside0.mk (Kd.V_below (Kd.V_elderB (by (with_reducible repeat (first | apply Kd.V_alloc | apply Kd.V_drewN | apply Kd.V_drew)); exact HO0.out) gb208 (Nat.le_of_eq hg.symm)) hb); have n1_ := Aside0.mk (Kd.V_below (Kd.V_elderB (by (with_reducible repeat (first | apply Kd.V_alloc | apply Kd.V_drewN | apply Kd.V_drew)); exact HO1.out) gb208 (Nat.le_of_eq hg.symm)) hb); have n2_ := Aside0.mk (blk_below (g := gb207) (o := .cells #[.slice A0 l0.length c0] 22 (0, 0)) (by (with_reducible repeat (first | refine blk_drewN ?_ _ | refine blk_drew ?_ | refine blk_alloc ?_ _)); exact BK207.out) hb); have n3_ := Aside0.mk (below_step (by repeat (first | (with_reducible first | exact HB.out | apply below_alloc | apply pw_below_drewN | apply below_drew1 | refine below_set ?_ GE207.out) | exact HB.out)) hb); have n4_ := Aside0.mk (hbox); have n5_ := Aside0.mk ((by rw [hg]; exact (below_size (by repeat (first | (with_reducible first | exact HB.out | apply below_alloc | apply pw_below_drewN | apply below_drew1 | refine below_set ?_ GE207.out) | exact HB.out))) : w.heap.size ≤ gb208)); have n6_ := Aside0.mk ((by rw [hg]; exact (below_size (by repeat (first | (with_reducible first | exact HB.out | apply below_alloc | apply pw_below_drewN | apply below_drew1 | refine below_set ?_ GE207.out) | exact HB.out))) : w.heap.size ≤ gb208)); have n7_ := Aside0.mk ((by rw [hg]; exact Nat.ne_of_lt (blk_lt (g := gb207) (o := .cells #[.slice A0 l0.length c0] 22 (0, 0)) (by (with_reducible repeat (first | refine blk_drewN ?_ _ | refine blk_drew ?_ | refine blk_alloc ?_ _)); exact BK207.out)) : gb207 ≠ gb208)); have n8_ := Aside0.mk ((by rw [hg]; exact Nat.ne_of_gt (blk_lt (g := gb207) (o := .cells #[.slice A0 l0.length c0] 22 (0, 0)) (by (with_reducible repeat (first | refine blk_drewN ?_ _ | refine blk_drew ?_ | refine blk_alloc ?_ _)); exact BK207.out)) : gb208 ≠ gb207)); clear HO0; clear HO1; clear BK207; clear HB; have HO0 := n0_; have HO1 := n1_; have BK207 := n2_; have HB := n3_; have BK208 := n4_; have GW208 := n5_; have GE208 := n6_; have NB207_208 := n7_; have NB208_207 := n8_; clear n0_ n1_ n2_ n3_ n4_ n5_ n6_ n7_ n8_; clear hb hbox hg; have hnb5 := NB207_208.out; have hnc5 := NB208_207.out; have hcz6_0 : w4.cell? ⟨gb207, 0, none⟩ = some (.slice A0 l0.length c0) := (blk_cell BK207.out 0).trans rfl; have hfz6_0 := blk_frozen BK207.out 0; have hcz7_0 : w4.cell? ⟨gb208, 0, none⟩ = some (.slice A1 l1.length c1) := (blk_cell BK208.out 0).trans rfl; have hfz7_0 := blk_frozen BK208.out 0) | ((with_reducible refine gate_dst (N := 11) rfl ?_); refine Kd.N_lit (Kd.slice 43 (Kd.slice 5 (Kd.int .u8))) _ 22 ?hg (N' := 11) ?hd (xs := ([l0, l1] : List (List (List Int)))) (inner := [.slice A0 l0.length c0, .slice A1 l1.length c1]) (ok := (fun k_ => ((P0_ k_ ∨ P1_ k_) ∨ w.heap.size ≤ k_) ∧ k_ ≠ gb207 ∧ k_ ≠ gb208)) (okp := (fun k_ => ((P0_ k_ ∨ P1_ k_) ∨ w.heap.size ≤ k_) ∧ k_ ≠ gb207 ∧ k_ ≠ gb208)) ?hr ?hp (fun _ hk => hk) ((show ∀ k_, w4.heap.size ≤ k_ → (fun k_ => ((P0_ k_ ∨ P1_ k_) ∨ w.heap.size ≤ k_) ∧ k_ ≠ gb207 ∧ k_ ≠ gb208) k_ from fun k_ hk => ⟨(.inr (Nat.le_trans (below_size (by repeat (first | (with_reducible first | exact HB.out | apply below_alloc | apply pw_below_drewN | apply below_drew1 | refine below_set ?_ GE207.out | refine below_set ?_ GE208.out) | exact HB.out))) hk)), Kd.freshB (g := gb207) (o := .cells #[.slice A0 l0.length c0] 22 (0, 0)) (by (with_reducible repeat (first | refine blk_drewN ?_ _ | refine blk_drew ?_ | refine blk_alloc ?_ _)); exact BK207.out) k_ hk, Kd.freshB (g := gb208) (o := .cells #[.slice A1 l1.length c1] 22 (0, 0)) (by (with_reducible repeat (first | refine blk_drewN ?_ _ | refine blk_drew ?_ | refine blk_alloc ?_ _)); exact BK208.out) k_ hk⟩) _ (Nat.le_refl _)) (Below.refl _ _) (Nat.le_refl _) (by simp) ?_; (case hd => rfl); (case hg => rfl); (case hr => first | (go_simp; done) | (go_simp; rfl)); (case hp => exact (Reps.one (show Kd.FK (Kd.slice 43 (Kd.slice 5 (Kd.int .u8))) _ _ l0 [.slice A0 l0.length c0] from (Kd.FK_slice_mk (Kd.V_reads' (Kd.V_mono (ok' := (fun k_ => ((P0_ k_ ∨ P1_ k_) ∨ w.heap.size ≤ k_) ∧ k_ ≠ gb207 ∧ k_ ≠ gb208)) (HO0.out) (fun k_ hk => ⟨hk.1.1, ⟨hk.1.2, hk.2⟩⟩))).2.1 (Kd.V_F (Kd.V_mono (ok' := (fun k_ => ((P0_ k_ ∨ P1_ k_) ∨ w.heap.size ≤ k_) ∧ k_ ≠ gb207 ∧ k_ ≠ gb208)) (HO0.out) (fun k_ hk => ⟨hk.1.1, ⟨hk.1.2, hk.2⟩⟩))))) (Reps.one (show Kd.FK (Kd.slice 43 (Kd.slice 5 (Kd.int .u8))) _ _ l1 [.slice A1 l1.length c1] from (Kd.FK_slice_mk (Kd.V_reads' (Kd.V_mono (ok' := (fun k_ => ((P0_ k_ ∨ P1_ k_) ∨ w.heap.size ≤ k_) ∧ k_ ≠ gb207 ∧ k_ ≠ gb208)) (HO1.out) (fun k_ hk => ⟨hk.1.1, ⟨hk.1.2, hk.2⟩⟩))).2.1 (Kd.V_F (Kd.V_mono (ok' := (fun k_ => ((P0_ k_ ∨ P1_ k_) ∨ w.heap.size ≤ k_) ∧ k_ ≠ gb207 ∧ k_ ≠ gb208)) (HO1.out) (fun k_ hk => ⟨hk.1.1, ⟨hk.1.2, hk.2⟩⟩))))) (Reps.none _ _)))); intro v210 w8 ho9 hb hg_ hnew_; clear hg_ hnew_; (first | rw [← Ny209.out] at ho9 | (simp only [Int.reduceToNat] at ho9; rw [← Ny209.out] at ho9)); have n0_ := Aside0.mk (Kd.V_elder' (by (with_reducible repeat (first | apply Kd.V_alloc | apply Kd.V_drewN | apply Kd.V_drew)); exact HO0.out) (by first | exact Kd.N_base ho9 | exact Kd.S_base ho9 | exact Kd.R_base ho9) hb); have n1_ := Aside0.mk (Kd.V_elder' (by (with_reducible repeat (first | apply Kd.V_alloc | apply Kd.V_drewN | apply Kd.V_drew)); exact HO1.out) (by first | exact Kd.N_base ho9 | exact Kd.S_base ho9 | exact Kd.R_base ho9) hb); have n2_ := Aside0.mk (Kd.N_lower ho9 (below_size (by repeat (first | (with_reducible first | exact HB.out | apply below_alloc | apply pw_below_drewN | apply below_drew1 | refine below_set ?_ GE207.out | refine below_set ?_ GE208.out) | exact HB.out)))); have n3_ := Aside0.mk (blk_below (g := gb207) (o := .cells #[.slice A0 l0.length c0] 22 (0, 0)) (by (with_reducible repeat (first | refine blk_drewN ?_ _ | refine blk_drew ?_ | refine blk_alloc ?_ _)); exact BK207.out) hb); have n4_ := Aside0.mk (blk_below (g := gb208) (o := .cells #[.slice A1 l1.length c1] 22 (0, 0)) (by (with_reducible repeat (first | refine blk_drewN ?_ _ | refine blk_drew ?_ | refine blk_alloc ?_ _)); exact BK208.out) hb); have n5_ := Aside0.mk (below_step (by repeat (first | (with_reducible first | exact HB.out | apply below_alloc | apply pw_below_drewN | apply below_drew1 | refine below_set ?_ GE207.out | refine below_set ?_ GE208.out) | exact HB.out)) hb); clear HO0; clear HO1; clear BK207; clear BK208; clear HB; have HO0 := n0_; have HO1 := n1_; have HO211 := n2_; have BK207 := n3_; have BK208 := n4_; have HB := n5_; clear n0_ n1_ n2_ n3_ n4_ n5_; clear hb ho9; obtain ⟨Ao10, co10, eo10⟩ := Kd.N_slice HO211.out; subst eo10))
 go_loopg [13] k (fun kq v13 w' => ∃ (x13_1 : Int), v13 = .int .i64 x13_1 ∧ Aside0 (matrix_Product.l0 kq y209 (y209.length : Int) x13_1 l0 l1 = some (r1, r2)) ∧ Aside0 (kq ≤ k) ∧ Aside0 (Kd.N (Kd.slice 43 (Kd.slice 5 (Kd.int .u8))) 22 w' w.heap.size (fun k_ => ((P0_ k_ ∨ P1_ k_) ∨ w.heap.size ≤ k_) ∧ k_ ≠ gb207 ∧ k_ ≠ gb208) (.slice Ao10 y209.length co10) y209) ∧ Aside0 (Kd.V (Kd.slice 5 (Kd.int .u8)) 43 w' w.heap.size (fun k_ => ((P0_ k_ ∨ P1_ k_) ∨ w.heap.size ≤ k_) ∧ some k_ ≠ ((.slice Ao10 y209.length co10) : Value).ownBlock ∧ k_ ≠ gb207 ∧ k_ ≠ gb208) (.slice A0 l0.length c0) l0) ∧ Aside0 (Kd.V (Kd.slice 5 (Kd.int .u8)) 43 w' w.heap.size (fun k_ => ((P0_ k_ ∨ P1_ k_) ∨ w.heap.size ≤ k_) ∧ some k_ ≠ ((.slice Ao10 y209.length co10) : Value).ownBlock ∧ k_ ≠ gb207 ∧ k_ ≠ gb208) (.slice A1 l1.length c1) l1) ∧ Aside0 (w'.heap[gb207]? = some (.cells #[(.slice A0 l0.length c0)] 22 (0, 0))) ∧ Aside0 (w'.heap[gb208]? = some (.cells #[(.slice A1 l1.length c1)] 22 (0, 0))) ∧ Aside0 (Below w.heap.size w w'))
 case atStart => exact ⟨(0), (by first | rfl | (simp; done) | (simp [*]; done)), H', ⟨Nat.le_refl _⟩, ⟨by (with_reducible repeat (first | apply Kd.N_alloc | apply Kd.N_drewN | apply Kd.N_drew)); exact HO211.out⟩, ⟨by (with_reducible repeat (first | apply Kd.V_alloc | apply Kd.V_drewN | apply Kd.V_drew)); exact Kd.V_mono HO0.out (fun _ hk => ⟨hk.1.1.1, ⟨hk.2, ⟨hk.1.1.2, hk.1.2⟩⟩⟩)⟩, ⟨by (with_reducible repeat (first | apply Kd.V_alloc | apply Kd.V_drewN | apply Kd.V_drew)); exact Kd.V_mono HO1.out (fun _ hk => ⟨hk.1.1.1, ⟨hk.2, ⟨hk.1.1.2, hk.1.2⟩⟩⟩)⟩, ⟨by (with_reducible repeat (first | refine blk_drewN ?_ _ | refine blk_drew ?_ | refine blk_alloc ?_ _)); exact BK207.out⟩, ⟨by (with_reducible repeat (first | refine blk_drewN ?_ _ | refine blk_drew ?_ | refine blk_alloc ?_ _)); exact BK208.out⟩, ⟨by repeat (first | (with_reducible first | exact HB.out | apply below_alloc | apply pw_below_drewN | apply below_drew1 | refine below_set ?_ GE207.out | refine below_set ?_ GE208.out) | exact HB.out)⟩⟩
 case round =>
  clear H'
  try clear c1
  try clear c2
  try clear p2
  try clear c5
  try clear hcz6_0
  try clear hcz7_0
  try clear hfz6_0
  try clear hfz7_0
  obtain ⟨x13_1, rfl, HA, HK1, HO_11, HO_208000, HO_209000, BK207, BK208, HB⟩ := hrel
  cases gk with
  | zero => exact absurd HA.out (by simp [matrix_Product.l0])
  | succ k1 =>
   have H := HA.out
   clear HA
   simp only [matrix_Product.l0] at H
   by_cases c11 : x13_1 < (y209.length : Int)
   ·rw [if_pos c11] at H
    have c11b0 : decide (x13_1 < (y209.length : Int)) = true := decide_eq_true c11
    clear c11
    by_cases c12 : 0 ≤ x13_1
    ·rw [if_pos c12] at H
     have c12b0 : decide (0 ≤ x13_1) = true := decide_eq_true c12
     clear c12
     by_cases c13 : x13_1 < (y209.length : Int)
     ·rw [if_pos c13] at H
      have c13b0 : decide (x13_1 < (y209.length : Int)) = true := decide_eq_true c13
      clear c13
      replace H := Option.bind_eq_some_iff.mp H
      obtain ⟨t213, A140, H⟩ := H
      replace H : (if t213 = 0 then (matrix_Product.l0 k1 y209 (y209.length : Int) (wrap64 (x13_1 + 1)) l0 l1) else (some (([] : List (List Int)), t213))) = some (r1, r2) := H
      have A14 := Aside0.mk A140
      clear A140
      by_cases c15 : t213 = 0
      ·rw [if_pos c15] at H
       have c15b0 : (t213 == 0) = true := beq_iff_eq.mpr c15
       have c15b1 : (t213 != 0) = false := bne_eq_false_iff_eq.mpr c15
       clear c15
       have H' := Aside0.mk H
       clear H
       have p212 : 0 ≤ (x13_1 : Int) := of_decide_eq_true (by first | (with_reducible assumption) | assumption)
       have q212 : x13_1 < (y209.length : Int) := of_decide_eq_true (by first | (with_reducible assumption) | assumption)
       obtain ⟨ad212, A212_0, c212_0, e212, hx212_0, hl212_0, hi212_0⟩ := at_L4 (Kd.N_reads' HO_11.out).2.2 x13_1 p212 q212
       cases e212
       obtain ⟨ce212, hce212, hMe212, hcc212⟩ := Kd.N_get HO_11.out [] x13_1 p212 (by first | exact q212 | exact of_decide_eq_true (by first | (with_reducible assumption) | assumption) | (have e_ := (Kd.N_reads' HO_11.out).1; omega))
       obtain ⟨ua212_0, uc212_0, rfl, ul212_0, ge212_0⟩ := Kd.FK_slice_open hMe212
       have hv212_0 := hcc212 0 _ rfl
       rw [Nat.add_zero, show ((Kd.slice 43 (Kd.slice 5 (Kd.int .u8)))).sz = 1 from rfl, Nat.mul_one] at hv212_0
       replace hv212_0 := Option.some.inj (hv212_0.symm.trans hx212_0)
       injection hv212_0 with hva_ hvn_ hvc_
       rw [hva_] at ge212_0
       rw [hvc_] at ul212_0
       have HL212_0 := Aside0.mk (show Kd.V (Kd.slice 5 (Kd.int .u8)) 43 _ w.heap.size _ _ (rd_L4 y209 x13_1) from Kd.V_mk ul212_0 ge212_0)
       clear hva_ hvn_ hvc_ ge212_0 ul212_0
       clear hcc212 hce212
       have HR212_0 := Aside0.mk hi212_0
       have HC212_0 := Aside0.mk hl212_0
       clear hi212_0 hl212_0
       replace p212 := eq_true p212
       replace q212 := eq_true q212
       go_wp2_with (first | ((with_reducible refine gate_callee (f := 16) rfl ?_); refine goesL_ (some 18) rfl rfl Tryd.func16 (by kernel_rfl) rfl #[.slice A212_0 (rd_L4 y209 x13_1).length c212_0] rfl (by (try simp only [List.map_toArray, List.map_cons, List.map_nil]); first | done | rfl | (simp only [List.length_drop, List.length_take]; rfl)) ?_; (with_reducible refine (matrix_Check.calls k1 _ _ (rd_L4 y209 x13_1) t213 _ ?side1 ?side2 A14.out).mono ?_); (case side1 => repeat (first | exact (by repeat (first | (with_reducible exact HR212_0.out) | (with_reducible refine Kd.C_alloc ?_ _) | (with_reducible refine Kd.C_drewN ?_ _) | (with_reducible refine Kd.C_drew ?_) | exact HR212_0.out)) | (with_reducible refine Kd.C_alloc ?_ _) | (with_reducible refine Kd.C_drewN ?_ _) | (with_reducible refine Kd.C_drew ?_))); (case side2 => exact HC212_0.out); rintro e w' ⟨rfl, ⟨nd, rfl⟩⟩; refine ⟨_, rfl, ?_⟩))
       go_roundg k1
       case measure => have := HK1.out; omega
       case rel => exact ⟨(wrap64 (x13_1 + 1)), (by first | rfl | (simp; done) | (simp [*]; done)), H', ⟨by have := HK1.out; omega⟩, ⟨by (with_reducible repeat (first | apply Kd.N_alloc | apply Kd.N_drewN | apply Kd.N_drew)); exact HO_11.out⟩, ⟨by (with_reducible repeat (first | apply Kd.V_alloc | apply Kd.V_drewN | apply Kd.V_drew)); exact HO_208000.out⟩, ⟨by (with_reducible repeat (first | apply Kd.V_alloc | apply Kd.V_drewN | apply Kd.V_drew)); exact HO_209000.out⟩, ⟨by (with_reducible repeat (first | refine blk_drewN ?_ _ | refine blk_drew ?_ | refine blk_alloc ?_ _)); exact BK207.out⟩, ⟨by (with_reducible repeat (first | refine blk_drewN ?_ _ | refine blk_drew ?_ | refine blk_alloc ?_ _)); exact BK208.out⟩, ⟨by repeat (first | (with_reducible first | exact HB.out | apply below_alloc | apply pw_below_drewN | apply below_drew1 | refine below_set ?_ GE207.out | refine below_set ?_ GE208.out) | exact HB.out)⟩⟩
      ·rw [if_neg c15] at H
       have c15b0 : (t213 == 0) = false := beq_eq_false_iff_ne.mpr c15
       have c15b1 : (t213 != 0) = true := bne_iff_ne.mpr c15
       simp only [Option.some.injEq, Prod.mk.injEq] at H
       obtain ⟨rfl, rfl⟩ := H
       have p212 : 0 ≤ (x13_1 : Int) := of_decide_eq_true (by first | (with_reducible assumption) | assumption)
       have q212 : x13_1 < (y209.length : Int) := of_decide_eq_true (by first | (with_reducible assumption) | assumption)
       obtain ⟨ad212, A212_0, c212_0, e212, hx212_0, hl212_0, hi212_0⟩ := at_L4 (Kd.N_reads' HO_11.out).2.2 x13_1 p212 q212
       cases e212
       obtain ⟨ce212, hce212, hMe212, hcc212⟩ := Kd.N_get HO_11.out [] x13_1 p212 (by first | exact q212 | exact of_decide_eq_true (by first | (with_reducible assumption) | assumption) | (have e_ := (Kd.N_reads' HO_11.out).1; omega))
       obtain ⟨ua212_0, uc212_0, rfl, ul212_0, ge212_0⟩ := Kd.FK_slice_open hMe212
       have hv212_0 := hcc212 0 _ rfl
       rw [Nat.add_zero, show ((Kd.slice 43 (Kd.slice 5 (Kd.int .u8)))).sz = 1 from rfl, Nat.mul_one] at hv212_0
       replace hv212_0 := Option.some.inj (hv212_0.symm.trans hx212_0)
       injection hv212_0 with hva_ hvn_ hvc_
       rw [hva_] at ge212_0
       rw [hvc_] at ul212_0
       have HL212_0 := Aside0.mk (show Kd.V (Kd.slice 5 (Kd.int .u8)) 43 _ w.heap.size _ _ (rd_L4 y209 x13_1) from Kd.V_mk ul212_0 ge212_0)
       clear hva_ hvn_ hvc_ ge212_0 ul212_0
       clear hcc212 hce212
       have HR212_0 := Aside0.mk hi212_0
       have HC212_0 := Aside0.mk hl212_0
       clear hi212_0 hl212_0
       replace p212 := eq_true p212
       replace q212 := eq_true q212
       go_wp2_with (first | ((with_reducible refine gate_callee (f := 16) rfl ?_); refine goesL_ (some 18) rfl rfl Tryd.func16 (by kernel_rfl) rfl #[.slice A212_0 (rd_L4 y209 x13_1).length c212_0] rfl (by (try simp only [List.map_toArray, List.map_cons, List.map_nil]); first | done | rfl | (simp only [List.length_drop, List.length_take]; rfl)) ?_; (with_reducible refine (matrix_Check.calls k1 _ _ (rd_L4 y209 x13_1) t213 _ ?side1 ?side2 A14.out).mono ?_); (case side1 => repeat (first | exact (by repeat (first | (with_reducible exact HR212_0.out) | (with_reducible refine Kd.C_alloc ?_ _) | (with_reducible refine Kd.C_drewN ?_ _) | (with_reducible refine Kd.C_drew ?_) | exact HR212_0.out)) | (with_reducible refine Kd.C_alloc ?_ _) | (with_reducible refine Kd.C_drewN ?_ _) | (with_reducible refine Kd.C_drew ?_))); (case side2 => exact HC212_0.out); rintro e w' ⟨rfl, ⟨nd, rfl⟩⟩; refine ⟨_, rfl, ?_⟩))
       go_ret2
       exact ⟨_, by first | rfl | (simp [errW_none, errW_some] <;> rfl) | (simp [*, errW_none, errW_some] <;> rfl), by first | exact Kd.S_nil _ _ _ _ _ | exact Kd.N_nil _ _ _ _ _ | exact Kd.V_nil _ _ _ _ _ | exact Kd.Q_nil _ _ _ _ _ | exact Kd.R_nil _ _ _ _ _, by repeat (first | (with_reducible first | exact HB.out | apply below_alloc | apply pw_below_drewN | apply below_drew1 | refine below_set ?_ GE207.out | refine below_set ?_ GE208.out) | exact HB.out)⟩
     ·rw [if_neg c13] at H
      exact absurd H (by simp)
    ·rw [if_neg c12] at H
     exact absurd H (by simp)
   ·rw [if_neg c11] at H
    have c11b0 : decide (x13_1 < (y209.length : Int)) = false := decide_eq_false c11
    clear c11
    replace H := Option.bind_eq_some_iff.mp H
    obtain ⟨t214, A160, H⟩ := H
    replace H : (if t214 = (l1.length : Int) then ((matrix_columns.f l1).bind fun t215 => ((grid_47.f (l0.length : Int) t215 l0 l1).bind fun t216 => (some (t216, 0)))) else (some (([] : List (List Int)), 1))) = some (r1, r2) := H
    have A16 := Aside0.mk A160
    clear A160
    by_cases c17 : t214 = (l1.length : Int)
    ·rw [if_pos c17] at H
     have c17b0 : (t214 == (l1.length : Int)) = true := beq_iff_eq.mpr c17
     have c17b1 : (t214 != (l1.length : Int)) = false := bne_eq_false_iff_eq.mpr c17
     clear c17
     replace H := Option.bind_eq_some_iff.mp H
     obtain ⟨t215, A180, H⟩ := H
     replace H : ((grid_47.f (l0.length : Int) t215 l0 l1).bind fun t216 => (some (t216, 0))) = some (r1, r2) := H
     have A18 := Aside0.mk A180
     clear A180
     replace H := Option.bind_eq_some_iff.mp H
     obtain ⟨t216, A190, H⟩ := H
     replace H : (some (t216, 0)) = some (r1, r2) := H
     have A19 := Aside0.mk A190
     clear A190
     simp only [Option.some.injEq, Prod.mk.injEq] at H
     obtain ⟨rfl, rfl⟩ := H
     try go_wp2
     have n0_ := Aside0.mk (Kd.N_drew HO_11.out)
     have n1_ := Aside0.mk (Kd.V_drew HO_208000.out)
     have n2_ := Aside0.mk (Kd.V_drew HO_209000.out)
     have n3_ := Aside0.mk (blk_drew BK207.out)
     have n4_ := Aside0.mk (blk_drew BK208.out)
     have n5_ := Aside0.mk (below_drew1 HB.out)
     clear HO_11
     clear HO_208000
     clear HO_209000
     clear BK207
     clear BK208
     clear HB
     have HO_11 := n0_
     have HO_208000 := n1_
     have HO_209000 := n2_
     have BK207 := n3_
     have BK208 := n4_
     have HB := n5_
     clear n0_ n1_ n2_ n3_ n4_ n5_
     refine start_ (n := 5) (S := fun w' => w'.cell? ⟨gb207, 0, none⟩ = some (.slice A0 l0.length c0) ∧ w'.cell? ⟨gb208, 0, none⟩ = some (.slice A1 l1.length c1)) (ds := []) #[false, false, false, false, false] (by kernel_rfl) rfl rfl ⟨(blk_cell BK207.out 0).trans rfl, (blk_cell BK208.out 0).trans rfl⟩ (fun hHeld => ?_)
     generalize wr.drew = w20 at HO_11 HO_208000 HO_209000 BK207 BK208 HB hHeld ⊢
     refine take_ (i := 0) (N := some 23) (v := ?_) (a' := ?_) #[true, false, false, false, false] rfl rfl (by kernel_rfl) (fun _ _ _ h => h) (Or.inl ⟨by rfl, ?_⟩) hHeld ?_ ?_
     rotate_left
     ·rintro w' ⟨s0, s1⟩
      (try simp only [Int.toNat_natCast] at s0 s1)
      go_simp
      with_reducible rfl
     rotate_left
     ·simp only [Act.put, List.setIfInBounds_toArray, List.set_cons_zero, List.set_cons_succ, i64_w, i32_w]
      rfl
     refine take_ (i := 2) (N := some 25) (v := ?_) (a' := ?_) #[true, false, true, false, false] rfl rfl (by kernel_rfl) (fun _ _ _ h => h) (Or.inl ⟨by rfl, ?_⟩) hHeld ?_ ?_
     rotate_left
     ·rintro w' ⟨s0, s1⟩
      (try simp only [Int.toNat_natCast] at s0 s1)
      go_simp
      with_reducible rfl
     rotate_left
     ·simp only [Act.put, List.setIfInBounds_toArray, List.set_cons_zero, List.set_cons_succ, i64_w, i32_w]
      rfl
     refine pure_ (i := 3) (N := some 26) (v := ?_) (a' := ?_) #[true, false, true, true, false] rfl rfl (by kernel_rfl) (fun _ _ _ h => h) (Or.inl ⟨by rfl, ?_⟩) ?_ ?_
     rotate_left
     ·intro w'
      go_simp
      with_reducible rfl
     rotate_left
     ·simp only [Act.put, List.setIfInBounds_toArray, List.set_cons_zero, List.set_cons_succ, i64_w, i32_w]
      rfl
     refine one_ (i := 1) (N := some 24) #[true, true, true, true, false] rfl rfl (by kernel_rfl) (by decide) (fun K hK => ?_)
     refine goes_ Tryd.func36 (by kernel_rfl) rfl #[.slice A0 l0.length c0] (by rfl) rfl rfl (by (try simp only [List.map_toArray, List.map_cons, List.map_nil]); first | done | rfl | (simp only [List.length_drop, List.length_take]; rfl)) ?_
     with_reducible refine (matrix_columns.calls _ _ l0 t214 _ ?side1 ?side2 A16.out).mono ?_
     (case side1 => repeat (first | exact (Kd.V_reads' HO_208000.out).2.2 | (with_reducible refine Kd.C_alloc ?_ _) | (with_reducible refine Kd.C_drewN ?_ _) | (with_reducible refine Kd.C_drew ?_)))
     (case side2 => exact (Kd.V_reads' HO_208000.out).2.1)
     rintro e w' ⟨rfl, ⟨nd, rfl⟩⟩
     refine ⟨_, rfl, ?_⟩
     refine hK.out _ _ ⟨(blk_cell BK207.out 0).trans rfl, (blk_cell BK208.out 0).trans rfl⟩ (fun hHeld => ?_)
     clear hK K
     refine norm_ (a' := ?_) ?_ ?_
     rotate_left
     ·show Act.put _ (some 24) _ = _
      simp only [Act.put, List.setIfInBounds_toArray, List.set_cons_zero, List.set_cons_succ, i64_w, i32_w]
      rfl
     refine pure_ (i := 4) (N := some 27) (v := ?_) (a' := ?_) #[true, true, true, true, true] rfl rfl (by kernel_rfl) (fun _ _ _ h => h) (Or.inl ⟨by rfl, ?_⟩) ?_ ?_
     rotate_left
     ·intro w'
      go_simp
      with_reducible rfl
     rotate_left
     ·simp only [Act.put, List.setIfInBounds_toArray, List.set_cons_zero, List.set_cons_succ, i64_w, i32_w]
      rfl
     refine done_ (by kernel_rfl) ?_
     try go_wp2
     (try (rw [drewN_self w20]; generalize hq_ : World.drewN w20 _ = w20; have n0_ : Aside0 (Kd.N (Kd.slice 43 (Kd.slice 5 (Kd.int .u8))) 22 w20 w.heap.size (fun k_ => ((P0_ k_ ∨ P1_ k_) ∨ w.heap.size ≤ k_) ∧ k_ ≠ gb207 ∧ k_ ≠ gb208) (.slice Ao10 y209.length co10) y209) := ⟨by rw [← hq_]; exact (by (with_reducible repeat (first | apply Kd.N_alloc | apply Kd.N_drewN | apply Kd.N_drew)); exact HO_11.out)⟩; have n1_ : Aside0 (Kd.V (Kd.slice 5 (Kd.int .u8)) 43 w20 w.heap.size (fun k_ => ((P0_ k_ ∨ P1_ k_) ∨ w.heap.size ≤ k_) ∧ some k_ ≠ (.slice Ao10 y209.length co10 : Value).ownBlock ∧ k_ ≠ gb207 ∧ k_ ≠ gb208) (.slice A0 l0.length c0) l0) := ⟨by rw [← hq_]; exact (by (with_reducible repeat (first | apply Kd.V_alloc | apply Kd.V_drewN | apply Kd.V_drew)); exact HO_208000.out)⟩; have n2_ : Aside0 (Kd.V (Kd.slice 5 (Kd.int .u8)) 43 w20 w.heap.size (fun k_ => ((P0_ k_ ∨ P1_ k_) ∨ w.heap.size ≤ k_) ∧ some k_ ≠ (.slice Ao10 y209.length co10 : Value).ownBlock ∧ k_ ≠ gb207 ∧ k_ ≠ gb208) (.slice A1 l1.length c1) l1) := ⟨by rw [← hq_]; exact (by (with_reducible repeat (first | apply Kd.V_alloc | apply Kd.V_drewN | apply Kd.V_drew)); exact HO_209000.out)⟩; have n3_ : Aside0 (w20.heap[gb207]? = some (.cells #[.slice A0 l0.length c0] 22 (0, 0))) := ⟨by rw [← hq_]; exact (by (with_reducible repeat (first | refine blk_drewN ?_ _ | refine blk_drew ?_ | refine blk_alloc ?_ _)); exact BK207.out)⟩; have n4_ : Aside0 (w20.heap[gb208]? = some (.cells #[.slice A1 l1.length c1] 22 (0, 0))) := ⟨by rw [← hq_]; exact (by (with_reducible repeat (first | refine blk_drewN ?_ _ | refine blk_drew ?_ | refine blk_alloc ?_ _)); exact BK208.out)⟩; have n5_ : Aside0 (Below w.heap.size w w20) := ⟨by rw [← hq_]; exact (by repeat (first | (with_reducible first | exact HB.out | apply below_alloc | apply pw_below_drewN | apply below_drew1 | refine below_set ?_ GE207.out | refine below_set ?_ GE208.out) | exact HB.out))⟩; clear HO_11 HO_208000 HO_209000 BK207 BK208 HB hq_; have HO_11 := n0_; have HO_208000 := n1_; have HO_209000 := n2_; have BK207 := n3_; have BK208 := n4_; have HB := n5_; clear n0_ n1_ n2_ n3_ n4_ n5_))
     have n0_ := Aside0.mk (Kd.N_drew HO_11.out)
     have n1_ := Aside0.mk (Kd.V_drew HO_208000.out)
     have n2_ := Aside0.mk (Kd.V_drew HO_209000.out)
     have n3_ := Aside0.mk (blk_drew BK207.out)
     have n4_ := Aside0.mk (blk_drew BK208.out)
     have n5_ := Aside0.mk (below_drew1 HB.out)
     clear HO_11
     clear HO_208000
     clear HO_209000
     clear BK207
     clear BK208
     clear HB
     have HO_11 := n0_
     have HO_208000 := n1_
     have HO_209000 := n2_
     have BK207 := n3_
     have BK208 := n4_
     have HB := n5_
     clear n0_ n1_ n2_ n3_ n4_ n5_
     refine start_ (n := 8) (S := fun w' => w'.cell? ⟨gb207, 0, none⟩ = some (.slice A0 l0.length c0) ∧ w'.cell? ⟨gb208, 0, none⟩ = some (.slice A1 l1.length c1)) (ds := []) #[false, false, false, false, false, false, false, false] (by kernel_rfl) rfl rfl ⟨(blk_cell BK207.out 0).trans rfl, (blk_cell BK208.out 0).trans rfl⟩ (fun hHeld => ?_); refine with_tabW matrix_Product.tab10 matrix_Product.bits10 (fun HT_ HW_ => ?_)
     generalize w20.drew = w21 at HO_11 HO_208000 HO_209000 BK207 BK208 HB hHeld ⊢
     refine pure_ (i := 4) (N := some 32) (v := ?_) (a' := ?_) #[false, false, false, false, true, false, false, false] rfl rfl (any_of HT_.out (by kernel_rfl)) (fun _ _ _ h => h) (Or.inl ⟨by rfl, ?_⟩) ?_ ?_
     rotate_left
     ·intro w'
      go_simp
      with_reducible rfl
     rotate_left
     ·simp only [Act.put, List.setIfInBounds_toArray, List.set_cons_zero, List.set_cons_succ, i64_w, i32_w]
      rfl
     refine take_ (i := 0) (N := some 28) (v := ?_) (a' := ?_) #[true, false, false, false, true, false, false, false] rfl rfl (take_ofW HT_.out HW_.out (by kernel_rfl)) (fun _ _ _ h => h) (Or.inl ⟨by rfl, ?_⟩) hHeld ?_ ?_
     rotate_left
     ·rintro w' ⟨s0, s1⟩
      (try simp only [Int.toNat_natCast] at s0 s1)
      go_simp
      with_reducible rfl
     rotate_left
     ·simp only [Act.put, List.setIfInBounds_toArray, List.set_cons_zero, List.set_cons_succ, i64_w, i32_w]
      rfl
     refine pure_ (i := 1) (N := some 29) (v := ?_) (a' := ?_) #[true, true, false, false, true, false, false, false] rfl rfl (any_of HT_.out (by kernel_rfl)) (fun _ _ _ h => h) (Or.inl ⟨by rfl, ?_⟩) ?_ ?_
     rotate_left
     ·intro w'
      go_simp
      with_reducible rfl
     rotate_left
     ·simp only [Act.put, List.setIfInBounds_toArray, List.set_cons_zero, List.set_cons_succ, i64_w, i32_w]
      rfl
     refine take_ (i := 2) (N := some 30) (v := ?_) (a' := ?_) #[true, true, true, false, true, false, false, false] rfl rfl (take_ofW HT_.out HW_.out (by kernel_rfl)) (fun _ _ _ h => h) (Or.inl ⟨by rfl, ?_⟩) hHeld ?_ ?_
     rotate_left
     ·rintro w' ⟨s0, s1⟩
      (try simp only [Int.toNat_natCast] at s0 s1)
      go_simp
      with_reducible rfl
     rotate_left
     ·simp only [Act.put, List.setIfInBounds_toArray, List.set_cons_zero, List.set_cons_succ, i64_w, i32_w]
      rfl
     refine one_ (i := 3) (N := some 31) #[true, true, true, true, true, false, false, false] rfl rfl (one_of HT_.out (by kernel_rfl)) (by decide) (fun K hK => ?_)
     refine goes_ Tryd.func36 (by kernel_rfl) rfl #[.slice A1 l1.length c1] (by rfl) rfl rfl (by (try simp only [List.map_toArray, List.map_cons, List.map_nil]); first | done | rfl | (simp only [List.length_drop, List.length_take]; rfl)) ?_
     with_reducible refine (matrix_columns.calls _ _ l1 t215 _ ?side1 ?side2 A18.out).mono ?_
     (case side1 => repeat (first | exact (Kd.V_reads' HO_209000.out).2.2 | (with_reducible refine Kd.C_alloc ?_ _) | (with_reducible refine Kd.C_drewN ?_ _) | (with_reducible refine Kd.C_drew ?_)))
     (case side2 => exact (Kd.V_reads' HO_209000.out).2.1)
     rintro e w' ⟨rfl, ⟨nd, rfl⟩⟩
     refine ⟨_, rfl, ?_⟩
     refine hK.out _ _ ⟨(blk_cell BK207.out 0).trans rfl, (blk_cell BK208.out 0).trans rfl⟩ (fun hHeld => ?_)
     clear hK K
     refine norm_ (a' := ?_) ?_ ?_
     rotate_left
     ·show Act.put _ (some 31) _ = _
      simp only [Act.put, List.setIfInBounds_toArray, List.set_cons_zero, List.set_cons_succ, i64_w, i32_w]
      rfl
     refine one_ (i := 5) (N := some 33) #[true, true, true, true, true, true, false, false] rfl rfl (one_of HT_.out (by kernel_rfl)) (by decide) (fun K hK => ?_)
     refine goes_ Tryd.func35 (by kernel_rfl) rfl #[.int .i64 (l0.length : Int), .int .i64 t215, .func (.func 47) #[] #[.pointer (some ⟨gb207, 0, none⟩), .pointer (some ⟨gb208, 0, none⟩)]] (by rfl) rfl rfl (by (try simp only [List.map_toArray, List.map_cons, List.map_nil]); first | done | rfl | (simp only [List.length_drop, List.length_take]; rfl)) ?_
     with_reducible refine (grid_47.calls gb207 gb208 (l0.length : Int) t215 A0 c0 l0 A1 c1 l1 t216 _ ?side1 ?side2 ?side3 ?side4 ?side5 ?side6 ?side7 A19.out).mono ?_
     (case side1 => first | (with_reducible exact HG.out) | (with_reducible exact HighIn.drewN HG.out _) | exact HighIn.below HG.out (by repeat (first | (with_reducible first | exact HB.out | apply below_alloc | apply pw_below_drewN | apply below_drew1 | refine below_set ?_ GE207.out | refine below_set ?_ GE208.out) | exact HB.out)) | ((repeat (first | (with_reducible exact HG.out) | (with_reducible apply HighIn.drewN) | (with_reducible apply HighIn.drew) | (with_reducible apply HighIn.alloc))); done))
     (case side2 => (with_reducible repeat (first | refine blk_drewN ?_ _ | refine blk_drew ?_ | refine blk_alloc ?_ _)); exact BK207.out)
     (case side3 => (with_reducible repeat (first | refine blk_drewN ?_ _ | refine blk_drew ?_ | refine blk_alloc ?_ _)); exact BK208.out)
     (case side4 => repeat (first | exact (Kd.V_reads' HO_208000.out).2.2 | (with_reducible refine Kd.C_alloc ?_ _) | (with_reducible refine Kd.C_drewN ?_ _) | (with_reducible refine Kd.C_drew ?_)))
     (case side5 => exact (Kd.V_reads' HO_208000.out).2.1)
     (case side6 => repeat (first | exact (Kd.V_reads' HO_209000.out).2.2 | (with_reducible refine Kd.C_alloc ?_ _) | (with_reducible refine Kd.C_drewN ?_ _) | (with_reducible refine Kd.C_drew ?_)))
     (case side7 => exact (Kd.V_reads' HO_209000.out).2.1)
     rintro e w22 ⟨v217, rfl, ho0, hb⟩
     refine ⟨_, rfl, ?_⟩
     have n0_ := Aside0.mk (Kd.N_elder' (by (with_reducible repeat (first | apply Kd.N_alloc | apply Kd.N_drewN | apply Kd.N_drew)); exact HO_11.out) (by first | exact Kd.N_base ho0 | exact Kd.S_base ho0 | exact Kd.R_base ho0) hb)
     have n1_ := Aside0.mk (Kd.V_elder' (by (with_reducible repeat (first | apply Kd.V_alloc | apply Kd.V_drewN | apply Kd.V_drew)); exact HO_208000.out) (by first | exact Kd.N_base ho0 | exact Kd.S_base ho0 | exact Kd.R_base ho0) hb)
     have n2_ := Aside0.mk (Kd.V_elder' (by (with_reducible repeat (first | apply Kd.V_alloc | apply Kd.V_drewN | apply Kd.V_drew)); exact HO_209000.out) (by first | exact Kd.N_base ho0 | exact Kd.S_base ho0 | exact Kd.R_base ho0) hb)
     have n3_ := Aside0.mk (Kd.N_lower (Kd.N_mono (ok' := fun k_ => ((P0_ k_ ∨ P1_ k_) ∨ w.heap.size ≤ k_) ∧ some k_ ≠ (.slice Ao10 y209.length co10 : Value).ownBlock ∧ k_ ≠ gb207 ∧ k_ ≠ gb208) (Kd.S_N (Kd.S_bound ho0)) (fun k_ hk_ => ⟨(.inr (Nat.le_trans (below_size (by repeat (first | (with_reducible first | exact HB.out | apply below_alloc | apply pw_below_drewN | apply below_drew1 | refine below_set ?_ GE207.out | refine below_set ?_ GE208.out) | exact HB.out))) hk_.2.1)), (Kd.fresh' (Kd.N_lt (by (with_reducible repeat (first | apply Kd.N_alloc | apply Kd.N_drewN | apply Kd.N_drew)); exact HO_11.out)) k_ hk_.2.1), (Kd.freshB (g := gb207) (o := .cells #[.slice A0 l0.length c0] 22 (0, 0)) (by (with_reducible repeat (first | refine blk_drewN ?_ _ | refine blk_drew ?_ | refine blk_alloc ?_ _)); exact BK207.out) k_ hk_.2.1), (Kd.freshB (g := gb208) (o := .cells #[.slice A1 l1.length c1] 22 (0, 0)) (by (with_reducible repeat (first | refine blk_drewN ?_ _ | refine blk_drew ?_ | refine blk_alloc ?_ _)); exact BK208.out) k_ hk_.2.1)⟩)) (below_size (by repeat (first | (with_reducible first | exact HB.out | apply below_alloc | apply pw_below_drewN | apply below_drew1 | refine below_set ?_ GE207.out | refine below_set ?_ GE208.out) | exact HB.out))))
     have n4_ := Aside0.mk (blk_below (g := gb207) (o := .cells #[.slice A0 l0.length c0] 22 (0, 0)) (by (with_reducible repeat (first | refine blk_drewN ?_ _ | refine blk_drew ?_ | refine blk_alloc ?_ _)); exact BK207.out) hb)
     have n5_ := Aside0.mk (blk_below (g := gb208) (o := .cells #[.slice A1 l1.length c1] 22 (0, 0)) (by (with_reducible repeat (first | refine blk_drewN ?_ _ | refine blk_drew ?_ | refine blk_alloc ?_ _)); exact BK208.out) hb)
     have n6_ := Aside0.mk (below_step (by repeat (first | (with_reducible first | exact HB.out | apply below_alloc | apply pw_below_drewN | apply below_drew1 | refine below_set ?_ GE207.out | refine below_set ?_ GE208.out) | exact HB.out)) hb)
     clear HO_11
     clear HO_208000
     clear HO_209000
     clear BK207
     clear BK208
     clear HB
     have HO_11 := n0_
     have HO_208000 := n1_
     have HO_209000 := n2_
     have HO218 := n3_
     have BK207 := n4_
     have BK208 := n5_
     have HB := n6_
     clear n0_ n1_ n2_ n3_ n4_ n5_ n6_
     (try clear hb)
     (try clear hb2)
     (try clear hk)
     (try clear hi)
     (try clear ho0)
     refine hK.out _ _ ⟨(blk_cell BK207.out 0).trans rfl, (blk_cell BK208.out 0).trans rfl⟩ (fun hHeld => ?_)
     clear hK K
     refine norm_ (a' := ?_) ?_ ?_
     rotate_left
     ·show Act.put _ (some 33) _ = _
      simp only [Act.put, List.setIfInBounds_toArray, List.set_cons_zero, List.set_cons_succ, i64_w, i32_w]
      rfl
     refine pure_ (i := 6) (N := some 4) (v := ?_) (a' := ?_) #[true, true, true, true, true, true, true, false] rfl rfl (any_of HT_.out (by kernel_rfl)) (fun _ _ _ h => h) (Or.inl ⟨by rfl, ?_⟩) ?_ ?_
     rotate_left
     ·intro w'
      go_simp
      with_reducible rfl
     rotate_left
     ·simp only [Act.put, List.setIfInBounds_toArray, List.set_cons_zero, List.set_cons_succ, i64_w, i32_w]
      rfl
     refine pure_ (i := 7) (N := some 5) (v := ?_) (a' := ?_) #[true, true, true, true, true, true, true, true] rfl rfl (any_of HT_.out (by kernel_rfl)) (fun _ _ _ h => h) (Or.inl ⟨by rfl, ?_⟩) ?_ ?_
     rotate_left
     ·intro w'
      go_simp
      with_reducible rfl
     rotate_left
     ·simp only [Act.put, List.setIfInBounds_toArray, List.set_cons_zero, List.set_cons_succ, i64_w, i32_w]
      rfl
     refine done_ (done_of HT_.out (by kernel_rfl)) ?_
     try go_wp2
     go_ret2
     exact ⟨_, by first | rfl | (simp [errW_none, errW_some] <;> rfl) | (simp [*, errW_none, errW_some] <;> rfl), by (with_reducible repeat (first | apply Kd.N_alloc | apply Kd.N_drewN | apply Kd.N_drew)); exact Kd.N_mono HO218.out (fun _ hk => hk.1), by repeat (first | (with_reducible first | exact HB.out | apply below_alloc | apply pw_below_drewN | apply below_drew1 | refine below_set ?_ GE207.out | refine below_set ?_ GE208.out) | exact HB.out)⟩
    ·rw [if_neg c17] at H
     have c17b0 : (t214 == (l1.length : Int)) = false := beq_eq_false_iff_ne.mpr c17
     have c17b1 : (t214 != (l1.length : Int)) = true := bne_iff_ne.mpr c17
     simp only [Option.some.injEq, Prod.mk.injEq] at H
     obtain ⟨rfl, rfl⟩ := H
     try go_wp2
     have n0_ := Aside0.mk (Kd.N_drew HO_11.out)
     have n1_ := Aside0.mk (Kd.V_drew HO_208000.out)
     have n2_ := Aside0.mk (Kd.V_drew HO_209000.out)
     have n3_ := Aside0.mk (blk_drew BK207.out)
     have n4_ := Aside0.mk (blk_drew BK208.out)
     have n5_ := Aside0.mk (below_drew1 HB.out)
     clear HO_11
     clear HO_208000
     clear HO_209000
     clear BK207
     clear BK208
     clear HB
     have HO_11 := n0_
     have HO_208000 := n1_
     have HO_209000 := n2_
     have BK207 := n3_
     have BK208 := n4_
     have HB := n5_
     clear n0_ n1_ n2_ n3_ n4_ n5_
     refine start_ (n := 5) (S := fun w' => w'.cell? ⟨gb207, 0, none⟩ = some (.slice A0 l0.length c0) ∧ w'.cell? ⟨gb208, 0, none⟩ = some (.slice A1 l1.length c1)) (ds := []) #[false, false, false, false, false] (by kernel_rfl) rfl rfl ⟨(blk_cell BK207.out 0).trans rfl, (blk_cell BK208.out 0).trans rfl⟩ (fun hHeld => ?_)
     generalize wr.drew = w23 at HO_11 HO_208000 HO_209000 BK207 BK208 HB hHeld ⊢
     refine take_ (i := 0) (N := some 23) (v := ?_) (a' := ?_) #[true, false, false, false, false] rfl rfl (by kernel_rfl) (fun _ _ _ h => h) (Or.inl ⟨by rfl, ?_⟩) hHeld ?_ ?_
     rotate_left
     ·rintro w' ⟨s0, s1⟩
      (try simp only [Int.toNat_natCast] at s0 s1)
      go_simp
      with_reducible rfl
     rotate_left
     ·simp only [Act.put, List.setIfInBounds_toArray, List.set_cons_zero, List.set_cons_succ, i64_w, i32_w]
      rfl
     refine take_ (i := 2) (N := some 25) (v := ?_) (a' := ?_) #[true, false, true, false, false] rfl rfl (by kernel_rfl) (fun _ _ _ h => h) (Or.inl ⟨by rfl, ?_⟩) hHeld ?_ ?_
     rotate_left
     ·rintro w' ⟨s0, s1⟩
      (try simp only [Int.toNat_natCast] at s0 s1)
      go_simp
      with_reducible rfl
     rotate_left
     ·simp only [Act.put, List.setIfInBounds_toArray, List.set_cons_zero, List.set_cons_succ, i64_w, i32_w]
      rfl
     refine pure_ (i := 3) (N := some 26) (v := ?_) (a' := ?_) #[true, false, true, true, false] rfl rfl (by kernel_rfl) (fun _ _ _ h => h) (Or.inl ⟨by rfl, ?_⟩) ?_ ?_
     rotate_left
     ·intro w'
      go_simp
      with_reducible rfl
     rotate_left
     ·simp only [Act.put, List.setIfInBounds_toArray, List.set_cons_zero, List.set_cons_succ, i64_w, i32_w]
      rfl
     refine one_ (i := 1) (N := some 24) #[true, true, true, true, false] rfl rfl (by kernel_rfl) (by decide) (fun K hK => ?_)
     refine goes_ Tryd.func36 (by kernel_rfl) rfl #[.slice A0 l0.length c0] (by rfl) rfl rfl (by (try simp only [List.map_toArray, List.map_cons, List.map_nil]); first | done | rfl | (simp only [List.length_drop, List.length_take]; rfl)) ?_
     with_reducible refine (matrix_columns.calls _ _ l0 t214 _ ?side1 ?side2 A16.out).mono ?_
     (case side1 => repeat (first | exact (Kd.V_reads' HO_208000.out).2.2 | (with_reducible refine Kd.C_alloc ?_ _) | (with_reducible refine Kd.C_drewN ?_ _) | (with_reducible refine Kd.C_drew ?_)))
     (case side2 => exact (Kd.V_reads' HO_208000.out).2.1)
     rintro e w' ⟨rfl, ⟨nd, rfl⟩⟩
     refine ⟨_, rfl, ?_⟩
     refine hK.out _ _ ⟨(blk_cell BK207.out 0).trans rfl, (blk_cell BK208.out 0).trans rfl⟩ (fun hHeld => ?_)
     clear hK K
     refine norm_ (a' := ?_) ?_ ?_
     rotate_left
     ·show Act.put _ (some 24) _ = _
      simp only [Act.put, List.setIfInBounds_toArray, List.set_cons_zero, List.set_cons_succ, i64_w, i32_w]
      rfl
     refine pure_ (i := 4) (N := some 27) (v := ?_) (a' := ?_) #[true, true, true, true, true] rfl rfl (by kernel_rfl) (fun _ _ _ h => h) (Or.inl ⟨by rfl, ?_⟩) ?_ ?_
     rotate_left
     ·intro w'
      go_simp
      with_reducible rfl
     rotate_left
     ·simp only [Act.put, List.setIfInBounds_toArray, List.set_cons_zero, List.set_cons_succ, i64_w, i32_w]
      rfl
     refine done_ (by kernel_rfl) ?_
     try go_wp2
     go_ret2
     exact ⟨_, by first | rfl | (simp [errW_none, errW_some] <;> rfl) | (simp [*, errW_none, errW_some] <;> rfl), by first | exact Kd.S_nil _ _ _ _ _ | exact Kd.N_nil _ _ _ _ _ | exact Kd.V_nil _ _ _ _ _ | exact Kd.Q_nil _ _ _ _ _ | exact Kd.R_nil _ _ _ _ _, by repeat (first | (with_reducible first | exact HB.out | apply below_alloc | apply pw_below_drewN | apply below_drew1 | refine below_set ?_ GE207.out | refine below_set ?_ GE208.out) | exact HB.out)⟩
mutual
def quietusref05_Check.l0 : Nat → List (List Int) → Int → Option (Int)
 | 0, _, _ => none
 | k + 1, x0, x3 => if x3 < (x0.length : Int) then (if 0 ≤ x3 then (if ((rd_L1 x0 x3).length : Int) > 48 then (some 2) else (quietusref05_Check.l0 k x0 (wrap64 (x3 + 1)))) else (none)) else (quietusref05_Check.l1 k x0 0)
def quietusref05_Check.l1 : Nat → List (List Int) → Int → Option (Int)
 | 0, _, _ => none
 | k + 1, x0, x4 => if x4 < (x0.length : Int) then (if 0 ≤ x4 then (if 0 < (x0.length : Int) then (if ((rd_L1 x0 x4).length : Int) = ((rd_L1 x0 0).length : Int) then (quietusref05_Check.l1 k x0 (wrap64 (x4 + 1))) else (some 1)) else (none)) else (none)) else (some 0)
end
def quietusref05_Check.f (k : Nat) (l0 : List (List Int)) : Option (Int) := if (l0.length : Int) > 48 then (some 2) else (quietusref05_Check.l0 k l0 0)
set_option maxHeartbeats 8000000 in
set_option maxRecDepth 100000 in
theorem quietusref05_Check.calls (k : Nat) (A0 : Option Addr) (c0 : Nat) (l0 : List (List Int)) (r : Int) (w : World) (hr0 : Kd.C (Kd.slice 5 (Kd.int .u8)) w A0 l0.length l0) (hc0 : l0.length ≤ c0) (h : quietusref05_Check.f k l0 = some r) :
  Calls Tryd.prog 12 #[.slice A0 l0.length c0] w fun e w' => e = .returned (.int .i64 r) ∧ Drawn0 w w' := by
 have HR0 := Aside0.mk hr0
 have HC0 := Aside0.mk hc0
 clear hr0 hc0
 have H : (if (l0.length : Int) > 48 then (some 2) else (quietusref05_Check.l0 k l0 0)) = some r := h
 clear h
 by_cases c2 : (l0.length : Int) > 48
 ·rw [if_pos c2] at H
  have c2b0 : decide (48 < (l0.length : Int)) = true := decide_eq_true c2
  have c2b1 : decide (48 < l0.length) = true := decide_eq_true (by omega)
  clear c2
  obtain rfl := Option.some.inj H
  go_enter Tryd.func12, Tryd.ntmps12
  go_wp2
  repeat (go_quiet (fail); try go_wp2)
  go_ret
  exact ⟨by first | rfl | (simp; done) | (simp [*]; done), by repeat (first | exact Drawn0.refl _ | apply Drawn0.step)⟩
 ·rw [if_neg c2] at H
  have c2b0 : decide (48 < (l0.length : Int)) = false := decide_eq_false c2
  have c2b1 : decide (48 < l0.length) = false := decide_eq_false (by omega)
  clear c2
  have H' := Aside0.mk H
  clear H
  go_enter Tryd.func12, Tryd.ntmps12
  go_wp2
  repeat (go_quiet (fail); try go_wp2)
  go_loopg [3] k (fun kq v3 w' => ∃ (x3_1 : Int), v3 = .int .i64 x3_1 ∧ Aside0 (quietusref05_Check.l0 kq l0 x3_1 = some r) ∧ Aside0 (kq ≤ k) ∧ Drawn0 w w')
  case atStart => exact ⟨(0), (by first | rfl | (simp; done) | (simp [*]; done)), H', ⟨Nat.le_refl _⟩, by repeat (first | exact Drawn0.refl _ | apply Drawn0.step)⟩
  case round =>
   clear H'
   try clear c1
   try clear c2
   try clear c2b0
   try clear c2b1
   try clear p2
   obtain ⟨x3_1, rfl, HA, HK1, ⟨m1, rfl⟩⟩ := hrel
   cases gk with
   | zero => exact absurd HA.out (by simp [quietusref05_Check.l0])
   | succ k1 =>
    have H := HA.out
    clear HA
    simp only [quietusref05_Check.l0] at H
    by_cases c3 : x3_1 < (l0.length : Int)
    ·rw [if_pos c3] at H
     have c3b0 : decide (x3_1 < (l0.length : Int)) = true := decide_eq_true c3
     clear c3
     by_cases c4 : 0 ≤ x3_1
     ·rw [if_pos c4] at H
      have c4b0 : decide (0 ≤ x3_1) = true := decide_eq_true c4
      clear c4
      by_cases c5 : ((rd_L1 l0 x3_1).length : Int) > 48
      ·rw [if_pos c5] at H
       have c5b0 : decide (48 < ((rd_L1 l0 x3_1).length : Int)) = true := decide_eq_true c5
       have c5b1 : decide (48 < (rd_L1 l0 x3_1).length) = true := decide_eq_true (by omega)
       clear c5
       obtain rfl := Option.some.inj H
       have p219 : 0 ≤ (x3_1 : Int) := of_decide_eq_true (by first | (with_reducible assumption) | assumption)
       have q219 : x3_1 < (l0.length : Int) := of_decide_eq_true (by first | (with_reducible assumption) | assumption)
       obtain ⟨ad219, A219_0, c219_0, e219, hx219_0, hl219_0, hi219_0⟩ := at_L1 HR0.out x3_1 p219 q219
       cases e219
       have HR219_0 := Aside0.mk hi219_0
       have HC219_0 := Aside0.mk hl219_0
       clear hi219_0 hl219_0
       replace p219 := eq_true p219
       replace q219 := eq_true q219
       go_wp2
       repeat (go_quiet (fail); try go_wp2)
       go_ret
       exact ⟨by first | rfl | (simp; done) | (simp [*]; done), by repeat (first | exact Drawn0.refl _ | apply Drawn0.step)⟩
      ·rw [if_neg c5] at H
       have c5b0 : decide (48 < ((rd_L1 l0 x3_1).length : Int)) = false := decide_eq_false c5
       have c5b1 : decide (48 < (rd_L1 l0 x3_1).length) = false := decide_eq_false (by omega)
       clear c5
       have H' := Aside0.mk H
       clear H
       have p219 : 0 ≤ (x3_1 : Int) := of_decide_eq_true (by first | (with_reducible assumption) | assumption)
       have q219 : x3_1 < (l0.length : Int) := of_decide_eq_true (by first | (with_reducible assumption) | assumption)
       obtain ⟨ad219, A219_0, c219_0, e219, hx219_0, hl219_0, hi219_0⟩ := at_L1 HR0.out x3_1 p219 q219
       cases e219
       have HR219_0 := Aside0.mk hi219_0
       have HC219_0 := Aside0.mk hl219_0
       clear hi219_0 hl219_0
       replace p219 := eq_true p219
       replace q219 := eq_true q219
       go_wp2
       repeat (go_quiet (fail); try go_wp2)
       go_roundg k1
       case measure => have := HK1.out; omega
       case rel => exact ⟨(wrap64 (x3_1 + 1)), (by first | rfl | (simp; done) | (simp [*]; done)), H', ⟨by have := HK1.out; omega⟩, by repeat (first | exact Drawn0.refl _ | apply Drawn0.step)⟩
     ·rw [if_neg c4] at H
      exact absurd H (by simp)
    ·rw [if_neg c3] at H
     have c3b0 : decide (x3_1 < (l0.length : Int)) = false := decide_eq_false c3
     clear c3
     have H' := Aside0.mk H
     clear H
     go_wp2
     repeat (go_quiet (fail); try go_wp2)
     go_loopg [4] k1 (fun kq v4 w' => ∃ (x4_2 : Int), v4 = .int .i64 x4_2 ∧ Aside0 (quietusref05_Check.l1 kq l0 x4_2 = some r) ∧ Aside0 (kq ≤ k1) ∧ Drawn0 w w')
     case atStart => exact ⟨(0), (by first | rfl | (simp; done) | (simp [*]; done)), H', ⟨Nat.le_refl _⟩, by repeat (first | exact Drawn0.refl _ | apply Drawn0.step)⟩
     case round =>
      clear H'
      try clear c1
      try clear c2
      try clear c2b0
      try clear c2b1
      try clear p2
      try clear q2
      try clear hx2
      try clear c3
      try clear c3b0
      try clear c4
      try clear c4b0
      try clear c5
      try clear c5b0
      try clear c5b1
      try clear hx219_0
      try clear p2
      try clear p219
      try clear q219
      obtain ⟨x4_2, rfl, HA, HK2, ⟨m2, rfl⟩⟩ := hrel
      cases gk with
      | zero => exact absurd HA.out (by simp [quietusref05_Check.l1])
      | succ k2 =>
       have H := HA.out
       clear HA
       simp only [quietusref05_Check.l1] at H
       by_cases c6 : x4_2 < (l0.length : Int)
       ·rw [if_pos c6] at H
        have c6b0 : decide (x4_2 < (l0.length : Int)) = true := decide_eq_true c6
        clear c6
        by_cases c7 : 0 ≤ x4_2
        ·rw [if_pos c7] at H
         have c7b0 : decide (0 ≤ x4_2) = true := decide_eq_true c7
         clear c7
         by_cases c8 : 0 < (l0.length : Int)
         ·rw [if_pos c8] at H
          have c8b0 : decide (0 < (l0.length : Int)) = true := decide_eq_true c8
          have c8b1 : decide (0 < l0.length) = true := decide_eq_true (by omega)
          clear c8
          by_cases c9 : ((rd_L1 l0 x4_2).length : Int) = ((rd_L1 l0 0).length : Int)
          ·rw [if_pos c9] at H
           have c9b0 : (((rd_L1 l0 x4_2).length : Int) == ((rd_L1 l0 0).length : Int)) = true := beq_iff_eq.mpr c9
           have c9b1 : (((rd_L1 l0 x4_2).length : Int) != ((rd_L1 l0 0).length : Int)) = false := bne_eq_false_iff_eq.mpr c9
           have c9b2 : ((rd_L1 l0 x4_2).length == (rd_L1 l0 0).length) = true := by first | simpa using c9 | (simp at c9 ⊢; omega)
           clear c9
           have H' := Aside0.mk H
           clear H
           have p220 : 0 ≤ (x4_2 : Int) := of_decide_eq_true (by first | (with_reducible assumption) | assumption)
           have q220 : x4_2 < (l0.length : Int) := of_decide_eq_true (by first | (with_reducible assumption) | assumption)
           obtain ⟨ad220, A220_0, c220_0, e220, hx220_0, hl220_0, hi220_0⟩ := at_L1 HR0.out x4_2 p220 q220
           cases e220
           have HR220_0 := Aside0.mk hi220_0
           have HC220_0 := Aside0.mk hl220_0
           clear hi220_0 hl220_0
           replace p220 := eq_true p220
           replace q220 := eq_true q220
           have p221 : 0 ≤ (0 : Int) := (by omega)
           have q221 : 0 < (l0.length : Int) := of_decide_eq_true (by first | (with_reducible assumption) | assumption)
           obtain ⟨ad221, A221_0, c221_0, e221, hx221_0, hl221_0, hi221_0⟩ := at_L1 HR0.out 0 p221 q221
           obtain rfl : ad220 = ad221 := (by injection e221)
           have qi221 : (0 < l0.length) = True := eq_true (by omega)
           (try rw [show ((0 : Int)).toNat = 0 from rfl] at hx221_0)
           (try rw [Addr.add_zero'] at hx221_0)
           have HR221_0 := Aside0.mk hi221_0
           have HC221_0 := Aside0.mk hl221_0
           clear hi221_0 hl221_0
           replace p221 := eq_true p221
           replace q221 := eq_true q221
           go_wp2
           repeat (go_quiet (fail); try go_wp2)
           go_roundg k2
           case measure => have := HK1.out; have := HK2.out; omega
           case rel => exact ⟨(wrap64 (x4_2 + 1)), (by first | rfl | (simp; done) | (simp [*]; done)), H', ⟨by have := HK1.out; have := HK2.out; omega⟩, by repeat (first | exact Drawn0.refl _ | apply Drawn0.step)⟩
          ·rw [if_neg c9] at H
           have c9b0 : (((rd_L1 l0 x4_2).length : Int) == ((rd_L1 l0 0).length : Int)) = false := beq_eq_false_iff_ne.mpr c9
           have c9b1 : (((rd_L1 l0 x4_2).length : Int) != ((rd_L1 l0 0).length : Int)) = true := bne_iff_ne.mpr c9
           have c9b2 : ((rd_L1 l0 x4_2).length == (rd_L1 l0 0).length) = false := by first | simpa using c9 | (simp at c9 ⊢; omega)
           obtain rfl := Option.some.inj H
           have p220 : 0 ≤ (x4_2 : Int) := of_decide_eq_true (by first | (with_reducible assumption) | assumption)
           have q220 : x4_2 < (l0.length : Int) := of_decide_eq_true (by first | (with_reducible assumption) | assumption)
           obtain ⟨ad220, A220_0, c220_0, e220, hx220_0, hl220_0, hi220_0⟩ := at_L1 HR0.out x4_2 p220 q220
           cases e220
           have HR220_0 := Aside0.mk hi220_0
           have HC220_0 := Aside0.mk hl220_0
           clear hi220_0 hl220_0
           replace p220 := eq_true p220
           replace q220 := eq_true q220
           have p221 : 0 ≤ (0 : Int) := (by omega)
           have q221 : 0 < (l0.length : Int) := of_decide_eq_true (by first | (with_reducible assumption) | assumption)
           obtain ⟨ad221, A221_0, c221_0, e221, hx221_0, hl221_0, hi221_0⟩ := at_L1 HR0.out 0 p221 q221
           obtain rfl : ad220 = ad221 := (by injection e221)
           have qi221 : (0 < l0.length) = True := eq_true (by omega)
           (try rw [show ((0 : Int)).toNat = 0 from rfl] at hx221_0)
           (try rw [Addr.add_zero'] at hx221_0)
           have HR221_0 := Aside0.mk hi221_0
           have HC221_0 := Aside0.mk hl221_0
           clear hi221_0 hl221_0
           replace p221 := eq_true p221
           replace q221 := eq_true q221
           go_wp2
           repeat (go_quiet (fail); try go_wp2)
           go_ret
           exact ⟨by first | rfl | (simp; done) | (simp [*]; done), by repeat (first | exact Drawn0.refl _ | apply Drawn0.step)⟩
         ·rw [if_neg c8] at H
          exact absurd H (by simp)
        ·rw [if_neg c7] at H
         exact absurd H (by simp)
       ·rw [if_neg c6] at H
        have c6b0 : decide (x4_2 < (l0.length : Int)) = false := decide_eq_false c6
        clear c6
        obtain rfl := Option.some.inj H
        go_wp2
        repeat (go_quiet (fail); try go_wp2)
        go_ret
        exact ⟨by first | rfl | (simp; done) | (simp [*]; done), by repeat (first | exact Drawn0.refl _ | apply Drawn0.step)⟩
def quietusref05_Columns.f (l0 : List (List Int)) : Option (Int) := if (l0.length : Int) = 0 then (some 0) else (if 0 < (l0.length : Int) then (some ((rd_L1 l0 0).length : Int)) else (none))
set_option maxHeartbeats 8000000 in
set_option maxRecDepth 100000 in
theorem quietusref05_Columns.calls (A0 : Option Addr) (c0 : Nat) (l0 : List (List Int)) (r : Int) (w : World) (hr0 : Kd.C (Kd.slice 5 (Kd.int .u8)) w A0 l0.length l0) (hc0 : l0.length ≤ c0) (h : quietusref05_Columns.f l0 = some r) :
  Calls Tryd.prog 30 #[.slice A0 l0.length c0] w fun e w' => e = .returned (.int .i64 r) ∧ Drawn0 w w' := by
 have HR0 := Aside0.mk hr0
 have HC0 := Aside0.mk hc0
 clear hr0 hc0
 have H : (if (l0.length : Int) = 0 then (some 0) else (if 0 < (l0.length : Int) then (some ((rd_L1 l0 0).length : Int)) else (none))) = some r := h
 clear h
 by_cases c2 : (l0.length : Int) = 0
 ·rw [if_pos c2] at H
  have c2b0 : ((l0.length : Int) == 0) = true := beq_iff_eq.mpr c2
  have c2b1 : ((l0.length : Int) != 0) = false := bne_eq_false_iff_eq.mpr c2
  clear c2
  obtain rfl := Option.some.inj H
  go_enter Tryd.func30, Tryd.ntmps30
  go_wp2
  go_ret
  exact ⟨by first | rfl | (simp; done) | (simp [*]; done), by repeat (first | exact Drawn0.refl _ | apply Drawn0.step)⟩
 ·rw [if_neg c2] at H
  have c2b0 : ((l0.length : Int) == 0) = false := beq_eq_false_iff_ne.mpr c2
  have c2b1 : ((l0.length : Int) != 0) = true := bne_iff_ne.mpr c2
  have c2b2 : ¬ (l0 = []) := fun h_ => c2 (by rw [h_]; rfl)
  by_cases c3 : 0 < (l0.length : Int)
  ·rw [if_pos c3] at H
   have c3b0 : decide (0 < (l0.length : Int)) = true := decide_eq_true c3
   have c3b1 : decide (0 < l0.length) = true := decide_eq_true (by omega)
   clear c3
   obtain rfl := Option.some.inj H
   have p222 : 0 ≤ (0 : Int) := (by omega)
   have q222 : 0 < (l0.length : Int) := of_decide_eq_true (by first | (with_reducible assumption) | assumption)
   obtain ⟨ad222, A222_0, c222_0, e222, hx222_0, hl222_0, hi222_0⟩ := at_L1 HR0.out 0 p222 q222
   cases e222
   have qi222 : (0 < l0.length) = True := eq_true (by omega)
   (try rw [show ((0 : Int)).toNat = 0 from rfl] at hx222_0)
   (try rw [Addr.add_zero'] at hx222_0)
   have HR222_0 := Aside0.mk hi222_0
   have HC222_0 := Aside0.mk hl222_0
   clear hi222_0 hl222_0
   replace p222 := eq_true p222
   replace q222 := eq_true q222
   go_enter Tryd.func30, Tryd.ntmps30
   go_wp2
   go_ret
   exact ⟨by first | rfl | (simp; done) | (simp [*]; done), by repeat (first | exact Drawn0.refl _ | apply Drawn0.step)⟩
  ·rw [if_neg c3] at H
   exact absurd H (by simp)
end Go.Proofs.YtijebgceopddmaaDoor.Pa
end
section
namespace Go.Proofs.YtijebgceopddmaaDoor.Pa
open Go.RowKit Go.Proofs.YtijebgceopddmaaDoor.Gf Go.Proofs.YtijebgceopddmaaDoor.Pr Go.Proofs.YtijebgceopddmaaDoorW.PrintWords Go.Proofs.YtijebgceopddmaaDoorW.PrintLast Go.Proofs.YtijebgceopddmaaDoorW.PrintMore
attribute [local go_sem] max2_int min2_int max_two min_two max_three min_three max_four min_four   -- for this text's walks alone
set_option linter.unusedVariables false
set_option linter.unusedSimpArgs false
def quietusref04_Mul.l0 : Nat → Int → Int → Int → Option (Int)
 | 0, _, _, _ => none
 | k + 1, x5, x6, x7 => if x6 > 0 then (if (Int.tmod x6 2) = 1 then (if (wrap64 (2 * x5)) > 255 then (quietusref04_Mul.l0 k (Go.bits .xor .i64 (wrap64 (2 * x5)) 285) (wrap64 (Int.tdiv x6 2)) (Go.bits .xor .i64 x7 x5)) else (quietusref04_Mul.l0 k (wrap64 (2 * x5)) (wrap64 (Int.tdiv x6 2)) (Go.bits .xor .i64 x7 x5))) else (if (wrap64 (2 * x5)) > 255 then (quietusref04_Mul.l0 k (Go.bits .xor .i64 (wrap64 (2 * x5)) 285) (wrap64 (Int.tdiv x6 2)) x7) else (quietusref04_Mul.l0 k (wrap64 (2 * x5)) (wrap64 (Int.tdiv x6 2)) x7))) else (some ((x7) % 256))
def quietusref04_Mul.f (k : Nat) (a0 : Int) (a1 : Int) : Option (Int) := quietusref04_Mul.l0 k (wrap64 (a0)) (wrap64 (a1)) 0
def quietusref05_Sum.l0 : Nat → List Int → Int → List Int → List Int → Int → Option (List Int)
 | 0, _, _, _, _, _ => none
 | k + 1, x0, x1, x2, x7, x8 => if x8 < (x0.length : Int) then (if 0 ≤ x8 then (if x8 < (x2.length : Int) then ((quietusref04_Mul.f k x1 (rd x2 x8)).bind fun t224 => (if x7.length < 140737488355328 then (quietusref05_Sum.l0 k x0 x1 x2 (x7 ++ [Go.bits .xor .u8 (rd x0 x8) t224]) (wrap64 (x8 + 1))) else (none))) else (none)) else (none)) else (some x7)
def quietusref05_Sum.f (k : Nat) (l0 : List Int) (a1 : Int) (l2 : List Int) : Option (List Int) := quietusref05_Sum.l0 k l0 a1 l2 ([] : List Int) 0
def quietusref05_Combine.l0 : Nat → List Int → List (List Int) → List Int → Int → Option (List Int)
 | 0, _, _, _, _ => none
 | k + 1, x0, x1, x7, x8 => if x8 < (x1.length : Int) then (if 0 ≤ x8 then (if x8 < (x0.length : Int) then ((quietusref05_Sum.f k x7 (rd x0 x8) (rd_L1 x1 x8)).bind fun t234 => (quietusref05_Combine.l0 k x0 x1 t234 (wrap64 (x8 + 1)))) else (none)) else (none)) else (some x7)
def quietusref05_Combine.f (k : Nat) (l0 : List Int) (l1 : List (List Int)) (a2 : Int) : Option (List Int) := if 0 ≤ a2 then (if (a2 : Int).toNat ≤ 281474976710656 then (quietusref05_Combine.l0 k l0 l1 (List.replicate (a2 : Int).toNat 0) 0) else (none)) else (none)
end Go.Proofs.YtijebgceopddmaaDoor.Pa
end
section
namespace Go.Proofs.YtijebgceopddmaaDoor.Pa
open Go.RowKit Go.Proofs.YtijebgceopddmaaDoor.Gf Go.Proofs.YtijebgceopddmaaDoor.Pr Go.Proofs.YtijebgceopddmaaDoorW.PrintWords Go.Proofs.YtijebgceopddmaaDoorW.PrintLast Go.Proofs.YtijebgceopddmaaDoorW.PrintMore
attribute [local go_sem] max2_int min2_int max_two min_two max_three min_three max_four min_four   -- for this text's walks alone
set_option linter.unusedVariables false
set_option linter.unusedSimpArgs false
mutual
def quietusref05_Product.j0 : Nat → List (List Int) → List (List Int) → Int → Option ((List (List Int)) × Int)
 | 0, _, _, _ => none
 | k + 1, x0, x1, x5 => if x5 = 0 then ((quietusref05_Columns.f x0).bind fun t240 => (if t240 = (x1.length : Int) then (quietusref05_Product.l0 k x0 x1 ([] : List (List Int)) 0) else (some (([] : List (List Int)), 1)))) else (some (([] : List (List Int)), x5))
def quietusref05_Product.l0 : Nat → List (List Int) → List (List Int) → List (List Int) → Int → Option ((List (List Int)) × Int)
 | 0, _, _, _, _ => none
 | k + 1, x0, x1, x6, x7 => if x7 < (x0.length : Int) then (if 0 ≤ x7 then ((quietusref05_Columns.f x1).bind fun t242 => ((quietusref05_Combine.f k (rd_L1 x0 x7) x1 t242).bind fun t243 => (if x6.length < 5864062014805 then (quietusref05_Product.l0 k x0 x1 (x6 ++ [t243]) (wrap64 (x7 + 1))) else (none)))) else (none)) else (some (x6, 0))
end
def quietusref05_Product.f (k : Nat) (l0 : List (List Int)) (l1 : List (List Int)) : Option ((List (List Int)) × Int) := (quietusref05_Check.f k l0).bind fun t238 => (if t238 = 0 then ((quietusref05_Check.f k l1).bind fun t239 => (quietusref05_Product.j0 k l0 l1 t239)) else (quietusref05_Product.j0 k l0 l1 t238))
-- NOT PRINTED: function 5 (quietuslaw05_MatrixProductsAsSpecified)
def quietusref05_column.l0 : Nat → List (List Int) → Int → List Int → Int → Option (List Int)
 | 0, _, _, _, _ => none
 | k + 1, x0, x1, x5, x6 => if x6 < (x0.length : Int) then (if 0 ≤ x6 then (if 0 ≤ x1 then (if x1 < ((rd_L1 x0 x6).length : Int) then (if x5.length < 140737488355328 then (quietusref05_column.l0 k x0 x1 (x5 ++ [rd (rd_L1 x0 x6) x1]) (wrap64 (x6 + 1))) else (none)) else (none)) else (none)) else (none)) else (some x5)
def quietusref05_column.f (k : Nat) (l0 : List (List Int)) (a1 : Int) : Option (List Int) := quietusref05_column.l0 k l0 a1 ([] : List Int) 0
def quietusref05_Transpose.l0 : Nat → List (List Int) → List (List Int) → Int → Option ((List (List Int)) × Int)
 | 0, _, _, _ => none
 | k + 1, x0, x4, x5 => (quietusref05_Columns.f x0).bind fun t305 => (if x5 < t305 then ((quietusref05_column.f k x0 x5).bind fun t306 => (if x4.length < 5864062014805 then (quietusref05_Transpose.l0 k x0 (x4 ++ [t306]) (wrap64 (x5 + 1))) else (none))) else (some (x4, 0)))
def quietusref05_Transpose.f (k : Nat) (l0 : List (List Int)) : Option ((List (List Int)) × Int) := (quietusref05_Check.f k l0).bind fun t304 => (if t304 = 0 then (quietusref05_Transpose.l0 k l0 ([] : List (List Int)) 0) else (some (([] : List (List Int)), t304)))
def quietuslaw05_mapped.f (k : Nat) (l0 : List (List Int)) (l1 : List Int) (l2 : List Int) : Option (Bool) := (quietusref05_Transpose.f k l0).bind fun bt312 => ((quietusref05_Combine.f k l1 bt312.1 (l0.length : Int)).bind fun t317 => ((quietusref05_SameRow.f k t317 l2).bind fun t320 => (some t320)))
-- NOT PRINTED: function 6 (quietuslaw05_MatrixSolutionsAreAll)
def quietusref05_Identity.l0 : Nat → Int → List (List Int) → Int → Option ((List (List Int)))
 | 0, _, _, _ => none
 | k + 1, x0, x3, x4 => if x4 < x0 then (if 0 ≤ x0 then (if (x0 : Int).toNat ≤ 281474976710656 then ((some (List.replicate (x0 : Int).toNat 0 : List Int)).bind fun y321 => (if 0 ≤ x4 then (if x4 < (y321.length : Int) then (if x3.length < 5864062014805 then (quietusref05_Identity.l0 k x0 (x3 ++ [(y321.set (x4 : Int).toNat 1)]) (wrap64 (x4 + 1))) else (none)) else (none)) else (none))) else (none)) else (none)) else (some x3)
def quietusref05_Identity.f (k : Nat) (a0 : Int) : Option ((List (List Int))) := quietusref05_Identity.l0 k a0 ([] : List (List Int)) 0
end Go.Proofs.YtijebgceopddmaaDoor.Pa
end
section
set_option linter.unusedVariables false
namespace Go.Proofs.YtijebgceopddmaaDoor.Ax
open Go.RowKit Go.Proofs.YtijebgceopddmaaDoorW.PrintWords Go.Proofs.YtijebgceopddmaaDoor.Gf Go.Proofs.YtijebgceopddmaaDoor.Pa
theorem gamOk : GamOk HighIn := fun W0 h0 W W' hb h j hj => (hb.cell (p := ⟨0, j, none⟩) h0.size).trans (h j hj)
theorem drawn_below {W W' : World} (h : Drawn0 W W') : Below W.heap.size W W' := by obtain ⟨n, rfl⟩ := h.out; exact pw_below_drewN (Below.refl _ _) n
section
variable {ok : Nat → Prop} {W : World} {v : Value} {k : IntKind}
theorem at_grid {xss : List (List Int)} (h : Rep ok W v (gridD k xss)) : ∃ A c, v = .slice A xss.length c ∧ xss.length ≤ c ∧ (Kd.slice 5 (Kd.int k)).C W A xss.length xss ∧ Kd.V (Kd.slice 5 (Kd.int k)) 43 W W.heap.size (fun q => ok q) v xss := by
  obtain ⟨A, c, rfl, hl⟩ := rep_slice h
  rw [List.length_map] at h hl ⊢
  exact ⟨A, c, rfl, hl, (rep_C_grid h).2.2, Kd.V_mk hl (rep_F_grid h)⟩
theorem at_row {xs : List Int} (h : Rep ok W v (rowD k xs)) : ∃ A c, v = .slice A xs.length c ∧ xs.length ≤ c ∧ (Kd.int k).C W A xs.length xs := by
  obtain ⟨A, c, rfl, hl⟩ := rep_slice h
  rw [List.length_map] at h hl ⊢
  exact ⟨A, c, rfl, hl, (rep_C_int h).2.2⟩
theorem tup2 {u1 u2 : Value} {x1 x2 : D} (h1 : Rep ok W u1 x1) (h2 : Rep ok W u2 x2) : RepR ok W (.tuple #[u1, u2]) (.tup [x1, x2]) :=
  ⟨_, rfl, rfl, fun i u y hu hy => by
    match i with
    | 0 => simp at hu hy; subst hu hy; exact h1
    | 1 => simp at hu hy; subst hu hy; exact h2
    | i + 2 => simp at hy⟩
theorem tup3 {u1 u2 u3 : Value} {x1 x2 x3 : D} (h1 : Rep ok W u1 x1) (h2 : Rep ok W u2 x2) (h3 : Rep ok W u3 x3) : RepR ok W (.tuple #[u1, u2, u3]) (.tup [x1, x2, x3]) :=
  ⟨_, rfl, rfl, fun i u y hu hy => by
    match i with
    | 0 => simp at hu hy; subst hu hy; exact h1
    | 1 => simp at hu hy; subst hu hy; exact h2
    | 2 => simp at hu hy; subst hu hy; exact h3
    | i + 3 => simp at hy⟩
end
theorem sp10 {k : Nat} {l0 : List (List Int)} {a1 : Int} {r1 : Bool} (h : quietusref05_Few.f k l0 a1 = some (r1)) : Spec Tryd.prog HighIn 10 ([gridD .u8 l0, iD .i64 a1].map T.d) (.d (D.val (.bool r1))) := by
  refine ⟨⟨_, Tryd.func10, by kernel_rfl, by kernel_rfl⟩, _, rfl, fun ok W vs hG hl hargs => ?_⟩
  match vs, hl, hargs with
  | [v0, v1], _, hargs =>
    have g0 := hargs 0 _ _ rfl rfl
    obtain ⟨A0, c0, rfl, k0, C0, V0⟩ := at_grid g0
    have g1 := hargs 1 _ _ rfl rfl
    obtain rfl := rep_int g1
    refine (quietusref05_Few.calls k A0 c0 l0 a1 r1 W C0 k0 h).mono ?_
    rintro e W' ⟨rfl, hb⟩
    exact ⟨_, rfl, (Rep.val _ rfl), drawn_below hb⟩
theorem sp16 {k : Nat} {l0 : List (List Int)} {r1 : Int} (h : matrix_Check.f k l0 = some (r1)) : Spec Tryd.prog HighIn 16 ([gridD .u8 l0].map T.d) (.d (iD .i64 r1)) := by
  refine ⟨⟨_, Tryd.func16, by kernel_rfl, by kernel_rfl⟩, _, rfl, fun ok W vs hG hl hargs => ?_⟩
  match vs, hl, hargs with
  | [v0], _, hargs =>
    have g0 := hargs 0 _ _ rfl rfl
    obtain ⟨A0, c0, rfl, k0, C0, V0⟩ := at_grid g0
    refine (matrix_Check.calls k A0 c0 l0 r1 W C0 k0 h).mono ?_
    rintro e W' ⟨rfl, hb⟩
    exact ⟨_, rfl, (Rep.val _ rfl), drawn_below hb⟩
theorem sp13 {k : Nat} {l0 : List (List Int)} {r1 : List (List Int)} {r2 : Int} (h : matrix_Transpose.f k l0 = some (r1, r2)) : Spec Tryd.prog HighIn 13 ([gridD .u8 l0].map T.d) (.tup [gridD .u8 r1, iD .i64 r2]) := by
  refine ⟨⟨_, Tryd.func13, by kernel_rfl, by kernel_rfl⟩, _, rfl, fun ok W vs hG hl hargs => ?_⟩
  match vs, hl, hargs with
  | [v0], _, hargs =>
    have g0 := hargs 0 _ _ rfl rfl
    obtain ⟨A0, c0, rfl, k0, C0, V0⟩ := at_grid g0
    refine (matrix_Transpose.calls k A0 c0 l0 r1 r2 W hG C0 k0 h).mono ?_
    rintro e W' ⟨x0, rfl, m0, hb⟩
    exact ⟨_, rfl, tup2 ((S_rep_grid m0).mono fun q hq _ => .inr hq) (Rep.val _ rfl), hb⟩
theorem sp14 {k : Nat} {l0 : List (List Int)} {r1 : List (List Int)} {r2 : List Int} {r3 : Int} (h : matrix_Reduce.f k l0 = some (r1, r2, r3)) : Spec Tryd.prog HighIn 14 ([gridD .u8 l0].map T.d) (.tup [gridD .u8 r1, rowD .i64 r2, iD .i64 r3]) := by
  refine ⟨⟨_, Tryd.func14, by kernel_rfl, by kernel_rfl⟩, _, rfl, fun ok W vs hG hl hargs => ?_⟩
  match vs, hl, hargs with
  | [v0], _, hargs =>
    have g0 := hargs 0 _ _ rfl rfl
    obtain ⟨A0, c0, rfl, k0, C0, V0⟩ := at_grid g0
    refine (matrix_Reduce.calls k A0 c0 l0 r1 r2 r3 W hG C0 k0 h).mono ?_
    rintro e W' ⟨x0, x1, rfl, m0, m1, hb⟩
    exact ⟨_, rfl, tup3 ((S_rep_grid m0).mono fun q hq _ => .inr hq) ((R_rep_int m1).mono fun q hq _ => .inr hq) (Rep.val _ rfl), hb⟩
theorem sp15 {k : Nat} {l0 : List (List Int)} {r1 : Int} {r2 : Int} (h : matrix_Rank.f k l0 = some (r1, r2)) : Spec Tryd.prog HighIn 15 ([gridD .u8 l0].map T.d) (.tup [iD .i64 r1, iD .i64 r2]) := by
  refine ⟨⟨_, Tryd.func15, by kernel_rfl, by kernel_rfl⟩, _, rfl, fun ok W vs hG hl hargs => ?_⟩
  match vs, hl, hargs with
  | [v0], _, hargs =>
    have g0 := hargs 0 _ _ rfl rfl
    obtain ⟨A0, c0, rfl, k0, C0, V0⟩ := at_grid g0
    refine (matrix_Rank.calls k A0 c0 l0 r1 r2 W hG C0 k0 h).mono ?_
    rintro e W' ⟨rfl, hb⟩
    exact ⟨_, rfl, tup2 (Rep.val _ rfl) (Rep.val _ rfl), hb⟩
theorem sp27 {k : Nat} {l0 : List Int} {l1 : List Int} {r1 : Bool} (h : quietusref05_SameRow.f k l0 l1 = some (r1)) : Spec Tryd.prog HighIn 27 ([rowD .u8 l0, rowD .u8 l1].map T.d) (.d (D.val (.bool r1))) := by
  refine ⟨⟨_, Tryd.func27, by kernel_rfl, by kernel_rfl⟩, _, rfl, fun ok W vs hG hl hargs => ?_⟩
  match vs, hl, hargs with
  | [v0, v1], _, hargs =>
    have g0 := hargs 0 _ _ rfl rfl
    obtain ⟨A0, c0, rfl, k0, C0⟩ := at_row g0
    have g1 := hargs 1 _ _ rfl rfl
    obtain ⟨A1, c1, rfl, k1, C1⟩ := at_row g1
    refine (quietusref05_SameRow.calls k A0 c0 l0 A1 c1 l1 r1 W C0 k0 C1 k1 h).mono ?_
    rintro e W' ⟨rfl, hb⟩
    exact ⟨_, rfl, (Rep.val _ rfl), drawn_below hb⟩
theorem sp19 {k : Nat} {l0 : List (List Int)} {l1 : List (List Int)} {r1 : Bool} (h : quietusref05_Same.f k l0 l1 = some (r1)) : Spec Tryd.prog HighIn 19 ([gridD .u8 l0, gridD .u8 l1].map T.d) (.d (D.val (.bool r1))) := by
  refine ⟨⟨_, Tryd.func19, by kernel_rfl, by kernel_rfl⟩, _, rfl, fun ok W vs hG hl hargs => ?_⟩
  match vs, hl, hargs with
  | [v0, v1], _, hargs =>
    have g0 := hargs 0 _ _ rfl rfl
    obtain ⟨A0, c0, rfl, k0, C0, V0⟩ := at_grid g0
    have g1 := hargs 1 _ _ rfl rfl
    obtain ⟨A1, c1, rfl, k1, C1, V1⟩ := at_grid g1
    refine (quietusref05_Same.calls k A0 c0 l0 A1 c1 l1 r1 W C0 k0 C1 k1 h).mono ?_
    rintro e W' ⟨rfl, hb⟩
    exact ⟨_, rfl, (Rep.val _ rfl), drawn_below hb⟩
theorem sp20 {k : Nat} {l0 : List Int} {l1 : List Int} {r1 : Bool} (h : quietusref05_SameList.f k l0 l1 = some (r1)) : Spec Tryd.prog HighIn 20 ([rowD .i64 l0, rowD .i64 l1].map T.d) (.d (D.val (.bool r1))) := by
  refine ⟨⟨_, Tryd.func20, by kernel_rfl, by kernel_rfl⟩, _, rfl, fun ok W vs hG hl hargs => ?_⟩
  match vs, hl, hargs with
  | [v0, v1], _, hargs =>
    have g0 := hargs 0 _ _ rfl rfl
    obtain ⟨A0, c0, rfl, k0, C0⟩ := at_row g0
    have g1 := hargs 1 _ _ rfl rfl
    obtain ⟨A1, c1, rfl, k1, C1⟩ := at_row g1
    refine (quietusref05_SameList.calls k A0 c0 l0 A1 c1 l1 r1 W C0 k0 C1 k1 h).mono ?_
    rintro e W' ⟨rfl, hb⟩
    exact ⟨_, rfl, (Rep.val _ rfl), drawn_below hb⟩
theorem sp21 {k : Nat} {l0 : List (List Int)} {l1 : List Int} {r1 : List Int} {r2 : List (List Int)} {r3 : Int} (h : matrix_Solve.f k l0 l1 = some (r1, r2, r3)) : Spec Tryd.prog HighIn 21 ([gridD .u8 l0, rowD .u8 l1].map T.d) (.tup [rowD .u8 r1, gridD .u8 r2, iD .i64 r3]) := by
  refine ⟨⟨_, Tryd.func21, by kernel_rfl, by kernel_rfl⟩, _, rfl, fun ok W vs hG hl hargs => ?_⟩
  match vs, hl, hargs with
  | [v0, v1], _, hargs =>
    have g0 := hargs 0 _ _ rfl rfl
    obtain ⟨A0, c0, rfl, k0, C0, V0⟩ := at_grid g0
    have g1 := hargs 1 _ _ rfl rfl
    obtain ⟨A1, c1, rfl, k1, C1⟩ := at_row g1
    refine (matrix_Solve.calls k A0 c0 l0 A1 c1 l1 r1 r2 r3 W hG C0 k0 C1 k1 h).mono ?_
    rintro e W' ⟨x0, x1, rfl, m0, m1, hb⟩
    exact ⟨_, rfl, tup3 ((R_rep_int m0).mono fun q hq _ => .inr hq) ((S_rep_grid m1).mono fun q hq _ => .inr hq) (Rep.val _ rfl), hb⟩
theorem sp23 {k : Nat} {l0 : List (List Int)} {r1 : List (List Int)} {r2 : Int} (h : matrix_Inverse.f k l0 = some (r1, r2)) : Spec Tryd.prog HighIn 23 ([gridD .u8 l0].map T.d) (.tup [gridD .u8 r1, iD .i64 r2]) := by
  refine ⟨⟨_, Tryd.func23, by kernel_rfl, by kernel_rfl⟩, _, rfl, fun ok W vs hG hl hargs => ?_⟩
  match vs, hl, hargs with
  | [v0], _, hargs =>
    have g0 := hargs 0 _ _ rfl rfl
    obtain ⟨A0, c0, rfl, k0, C0, V0⟩ := at_grid g0
    refine (matrix_Inverse.calls k A0 c0 l0 r1 r2 W hG C0 k0 h).mono ?_
    rintro e W' ⟨x0, rfl, m0, hb⟩
    exact ⟨_, rfl, tup2 ((S_rep_grid m0).mono fun q hq _ => .inr hq) (Rep.val _ rfl), hb⟩
theorem sp25 {k : Nat} {l0 : List (List Int)} {l1 : List Int} {r1 : List Int} {r2 : Int} (h : matrix_Express.f k l0 l1 = some (r1, r2)) : Spec Tryd.prog HighIn 25 ([gridD .u8 l0, rowD .u8 l1].map T.d) (.tup [rowD .u8 r1, iD .i64 r2]) := by
  refine ⟨⟨_, Tryd.func25, by kernel_rfl, by kernel_rfl⟩, _, rfl, fun ok W vs hG hl hargs => ?_⟩
  match vs, hl, hargs with
  | [v0, v1], _, hargs =>
    have g0 := hargs 0 _ _ rfl rfl
    obtain ⟨A0, c0, rfl, k0, C0, V0⟩ := at_grid g0
    have g1 := hargs 1 _ _ rfl rfl
    obtain ⟨A1, c1, rfl, k1, C1⟩ := at_row g1
    refine (matrix_Express.calls k A0 c0 l0 A1 c1 l1 r1 r2 W hG C0 k0 C1 k1 h).mono ?_
    rintro e W' ⟨x0, rfl, m0, hb⟩
    exact ⟨_, rfl, tup2 ((R_rep_int m0).mono fun q hq _ => .inr hq) (Rep.val _ rfl), hb⟩
theorem sp28 {k : Nat} {l0 : List (List Int)} {l1 : List (List Int)} {r1 : List (List Int)} {r2 : Int} (h : matrix_Product.f k l0 l1 = some (r1, r2)) : Spec Tryd.prog HighIn 28 ([gridD .u8 l0, gridD .u8 l1].map T.d) (.tup [gridD .u8 r1, iD .i64 r2]) := by
  refine ⟨⟨_, Tryd.func28, by kernel_rfl, by kernel_rfl⟩, _, rfl, fun ok W vs hG hl hargs => ?_⟩
  match vs, hl, hargs with
  | [v0, v1], _, hargs =>
    have g0 := hargs 0 _ _ rfl rfl
    obtain ⟨A0, c0, rfl, k0, C0, V0⟩ := at_grid g0
    have g1 := hargs 1 _ _ rfl rfl
    obtain ⟨A1, c1, rfl, k1, C1, V1⟩ := at_grid g1
    refine (matrix_Product.calls k (fun q => ok q) A0 c0 l0 (fun q => ok q) A1 c1 l1 r1 r2 W hG V0 V1 h).mono ?_
    rintro e W' ⟨x0, rfl, m0, hb⟩
    exact ⟨_, rfl, tup2 ((N_rep_grid m0).mono fun q hq _ => by rcases hq with (hq | hq) | hq <;> first | exact .inl hq | exact .inr hq) (Rep.val _ rfl), hb⟩
theorem sp12 {k : Nat} {l0 : List (List Int)} {r1 : Int} (h : quietusref05_Check.f k l0 = some (r1)) : Spec Tryd.prog HighIn 12 ([gridD .u8 l0].map T.d) (.d (iD .i64 r1)) := by
  refine ⟨⟨_, Tryd.func12, by kernel_rfl, by kernel_rfl⟩, _, rfl, fun ok W vs hG hl hargs => ?_⟩
  match vs, hl, hargs with
  | [v0], _, hargs =>
    have g0 := hargs 0 _ _ rfl rfl
    obtain ⟨A0, c0, rfl, k0, C0, V0⟩ := at_grid g0
    refine (quietusref05_Check.calls k A0 c0 l0 r1 W C0 k0 h).mono ?_
    rintro e W' ⟨rfl, hb⟩
    exact ⟨_, rfl, (Rep.val _ rfl), drawn_below hb⟩
theorem sp30 {l0 : List (List Int)} {r1 : Int} (h : quietusref05_Columns.f l0 = some (r1)) : Spec Tryd.prog HighIn 30 ([gridD .u8 l0].map T.d) (.d (iD .i64 r1)) := by
  refine ⟨⟨_, Tryd.func30, by kernel_rfl, by kernel_rfl⟩, _, rfl, fun ok W vs hG hl hargs => ?_⟩
  match vs, hl, hargs with
  | [v0], _, hargs =>
    have g0 := hargs 0 _ _ rfl rfl
    obtain ⟨A0, c0, rfl, k0, C0, V0⟩ := at_grid g0
    refine (quietusref05_Columns.calls A0 c0 l0 r1 W C0 k0 h).mono ?_
    rintro e W' ⟨rfl, hb⟩
    exact ⟨_, rfl, (Rep.val _ rfl), drawn_below hb⟩
end Go.Proofs.YtijebgceopddmaaDoor.Ax
end
section
set_option linter.unusedVariables false
set_option linter.unusedSimpArgs false
namespace Go.Proofs.YtijebgceopddmaaDoor.Ax
open Go.RowKit
abbrev tI (n : Int) : T := .d (.val (.int .i64 n))
abbrev tB (b : Bool) : T := .d (.val (.bool b))
section
variable {P : Program} {C : FuncId → List T → T → Prop} {N : Nat} {S : St} {Q : Exit → St → Prop} {x y z : Code}
theorem a_region {i : Nat} {ops : Array Oper} (h : awpOps P C N ops ops.toList S (Q .normal)) : awp P C N (.region i ops false) Q S := ⟨S, .refl _, h⟩
theorem a_seq_region {i : Nat} {ops : Array Oper} (h : awpOps P C N ops ops.toList S (awp P C N y Q)) : awp P C N (.seq (.region i ops false) y) Q S := ⟨S, .refl _, h⟩
theorem a_seq_ghost {i : Nat} {ops : Array Oper} {dr : Bool} {S1 : St} (hg : Ghost S S1) (h : awp P C N (.seq (.region i ops dr) y) Q S1) : awp P C N (.seq (.region i ops dr) y) Q S := by
  cases dr <;> (obtain ⟨S2, g, h⟩ := h; exact ⟨S2, hg.trans g, h⟩)
theorem a_seq_skip (h : awp P C N y Q S) : awp P C N (.seq .skip y) Q S := h
theorem a_seq_ret (h : Q .ret S) : awp P C N (.seq .ret y) Q S := h
theorem a_ret (h : Q .ret S) : awp P C N .ret Q S := h
theorem a_assoc (h : awp P C N (.seq x (.seq y z)) Q S) : awp P C N (.seq (.seq x y) z) Q S := by
  simp only [awp] at h ⊢
  refine Eq.mp ?_ h
  congr 1
  funext e S'
  cases e <;> rfl
theorem a_seq_true {c : Operand} (hc : S.eval c = .d (.val (.bool true))) (h : awp P C N (.seq x z) Q S) : awp P C N (.seq (.cond c x y) z) Q S := by
  simp only [awp, hc]
  exact ⟨fun _ => h, (fun e => nomatch e)⟩
theorem a_seq_false {c : Operand} (hc : S.eval c = .d (.val (.bool false))) (h : awp P C N (.seq y z) Q S) : awp P C N (.seq (.cond c x y) z) Q S := by
  simp only [awp, hc]
  exact ⟨(fun e => nomatch e), fun _ => h⟩
end
section
variable {P : Program} {C : FuncId → List T → T → Prop} {N : Nat} {ops : Array Oper} {S X : St} {K : St → Prop} {l : List Oper} {Q : Exit → St → Prop} {y : Code} {i : Nat} {o : Oper}
end
section
variable {P : Program} {C : FuncId → List T → T → Prop} {N : Nat} {ops : Array Oper} {S : St} {K : St → Prop} {rest : List Oper} {d : Nat} {ty : TypeId} {pos : String} {af : Array Edge}
theorem n_nil (h : K S) : awpOps P C N ops [] S K := h
theorem n_on {o : Oper} {j q : Nat} {want : Bool} (hg : o.guard = some (j, want)) (hj : (ops[j]?).bind (·.dst) = some q) (hq : q < N) (hb : S.f q = .d (.val (.bool want))) (h : awpOps P C N ops ({ o with guard := none } :: rest) S K) : awpOps P C N ops (o :: rest) S K := by
  unfold awpOps at h ⊢
  simp only [hg, hj, hb]
  exact ⟨hq, fun _ => h, fun e => absurd rfl e⟩
theorem n_off {o : Oper} {j q : Nat} {want b : Bool} (hg : o.guard = some (j, want)) (hj : (ops[j]?).bind (·.dst) = some q) (hq : q < N) (hb : S.f q = .d (.val (.bool b))) (hne : b ≠ want) (hdst : o.dst = some d) (hd : d < N) (h : awpOps P C N ops rest (S.put d (.d .any)) K) : awpOps P C N ops (o :: rest) S K := by
  unfold awpOps
  simp only [hg, hj, hb]
  rw [hdst]
  exact ⟨hq, fun e => absurd e hne, fun _ => ⟨hd, h⟩⟩
theorem n_move {x : Operand} (hd : d < N) {v : T} (hx : S.eval x = v) (h : awpOps P C N ops rest (S.put d v) K) : awpOps P C N ops ({ dst := some d, op := .move x, type := ty, pos := pos, after := af, guard := none } :: rest) S K := by
  subst hx; exact ⟨hd, h⟩
theorem n_assign {x : Operand} (hd : d < N) {v : T} (hx : S.eval x = v) (h : awpOps P C N ops rest (S.put d v) K) : awpOps P C N ops ({ dst := some d, op := .assign x, type := ty, pos := pos, after := af, guard := none } :: rest) S K := by
  subst hx; exact ⟨hd, h⟩
theorem n_pick {c x y : Operand} (hd : d < N) {b : Bool} (hc : S.eval c = .d (.val (.bool b))) {v : T} (hx : (if b then S.eval x else S.eval y) = v) (h : awpOps P C N ops rest (S.put d v) K) : awpOps P C N ops ({ dst := some d, op := .pick c x y, type := ty, pos := pos, after := af, guard := none } :: rest) S K := by
  subst hx
  simp only [awpOps, awpOp, hc]
  exact ⟨hd, h⟩
theorem n_extract {x : Operand} {i : Nat} (hd : d < N) {ts : List D} {t : D} (hx : S.eval x = .tup ts) (hi : ts[i]? = some t) (h : awpOps P C N ops rest (S.put d (.d t)) K) : awpOps P C N ops ({ dst := some d, op := .extract x i, type := ty, pos := pos, after := af, guard := none } :: rest) S K := by
  simp only [awpOps, awpOp, hx, hi]
  exact ⟨hd, h⟩
theorem n_int {op : BinOp} {t yt : TypeId} {x y : Operand} (hd : d < N) {k : IntKind} {m n : Int} {v : Value} (hx : S.eval x = .d (.val (.int k m))) (hy : S.eval y = .d (.val (.int k n))) (hv : intOp op k m n = some v) (h : awpOps P C N ops rest (S.put d (.d (.val v))) K) : awpOps P C N ops ({ dst := some d, op := .binOp op t x y yt, type := ty, pos := pos, after := af, guard := none } :: rest) S K := by
  simp only [awpOps, awpOp, hx, hy]
  exact ⟨trivial, v, hv, hd, h⟩
theorem n_not {t : TypeId} {x : Operand} (hd : d < N) {b : Bool} (hx : S.eval x = .d (.val (.bool b))) (h : awpOps P C N ops rest (S.put d (.d (.val (.bool !b)))) K) : awpOps P C N ops ({ dst := some d, op := .unOp .not t x, type := ty, pos := pos, after := af, guard := none } :: rest) S K := by
  simp only [awpOps, awpOp, hx]
  exact ⟨hd, h⟩
theorem n_build {t : TypeId} {n : Nat} {ps : Array (Nat × Operand)} (hd : d < N) {e : TypeId} {sz : Nat} {xs : List D} (he : elemT P t = some e) (hz : (zeroOf P e).isSome = true) (hs : szOf P e = sz) (h0 : 0 < sz) (hi : ps.toList.map (·.1) = List.range n) (hn : n * sz ≤ 16777216) (hxs : (ps.toList.map fun p => toD (S.eval p.2)) = xs) (hall : (xs.all fun x => x.known && x.cells.length == sz) = true)
    (h : awpOps P C N ops rest (S.put d (.d (.sl true xs))) K) : awpOps P C N ops ({ dst := some d, op := .buildSlice t n ps, type := ty, pos := pos, after := af, guard := none } :: rest) S K := by
  subst hs hxs
  simp only [awpOps, awpOp, he]
  exact ⟨hz, h0, hi, hn, hall, hd, h⟩
theorem n_make {t : TypeId} {l c : Operand} (hd : d < N) {e : TypeId} {sz by_ : Nat} {z : Value} {n : Int} (hl : S.eval l = .d (.val (.int .i64 n))) (hc : S.eval c = .d (.val (.int .i64 n))) (he : elemT P t = some e) (hz : zeroOf P e = some z) (hs : szOf P e = sz) (hb : bytesOf P e = by_) (h0 : 0 < sz) (h1 : z.cells.size = sz) (h2 : (ofV z).known = true) (h3 : (ofV z).cells.length = sz) (h4 : 0 ≤ n) (h5 : n ≤ 9223372036854775807) (h6 : by_ * n ≤ 140737488355328)
    (h : awpOps P C N ops rest (S.put d (.d (.sl true (List.replicate n.toNat (ofV z))))) K) : awpOps P C N ops ({ dst := some d, op := .makeSlice t l c, type := ty, pos := pos, after := af, guard := none } :: rest) S K := by
  subst hs hb
  simp only [awpOps, awpOp, he, hl, hc]
  exact ⟨trivial, z, hz, h0, h1, h2, h3, h4, h5, h6, .inl ⟨hd, h⟩⟩
theorem n_len {as_ : Array Operand} {ts : Array TypeId} (hd : d < N) {t : TypeId} {x : Operand} {ex : Bool} {xs : List D} (ht : ts[0]? = some t) (hx : as_[0]? = some x) (hv : S.eval x = .d (.sl ex xs)) (he : (elemT P t).isSome = true) {n : Nat} (hn : xs.length = n) (h : (n : Int) ≤ 9223372036854775807 → awpOps P C N ops rest (S.put d (.d (.val (.int .i64 n)))) K) : awpOps P C N ops ({ dst := some d, op := .call { callee := .builtin .len, args := as_, argTypes := ts }, type := ty, pos := pos, after := af, guard := none } :: rest) S K := by
  subst hn
  simp only [awpOps, awpOp, awpBuiltin, ht, hx, Option.map_some, hv]
  exact ⟨he, fun hle => ⟨hd, h hle⟩⟩
theorem n_loadVal {t : TypeId} {p : Operand} (hd : d < N) {y : D} (ht : rowT P t = some false) (hp : S.eval p = .eptr y) (hy : y.cells = [y]) (h : awpOps P C N ops rest (S.put d (.d y)) K) : awpOps P C N ops ({ dst := some d, op := .load t p, type := ty, pos := pos, after := af, guard := none } :: rest) S K := by
  cases y <;> (simp only [awpOps, awpOp, awpLoad, ht, hp]; exact ⟨hy, hd, h⟩)
theorem n_index {t : TypeId} {x ix : Operand} (hd : d < N) {e : TypeId} {ex : Bool} {xs : List D} {k : IntKind} {n : Int} {sz : Nat} {y : D} (ht : P.underlying t = some (.slice e)) (hx : S.eval x = .d (.sl ex xs)) (hi : S.eval ix = .d (.val (.int k n))) (h0 : 0 ≤ n) (hn : n < xs.length) (hs : szOf P e = sz) (hsz : 0 < sz) (hw : Wide sz xs) (hy : xs.getD n.toNat .any = y) (h : awpOps P C N ops rest (S.put d (.eptr y)) K) : awpOps P C N ops ({ dst := some d, op := .indexAddr t x ix, type := ty, pos := pos, after := af, guard := none } :: rest) S K := by
  subst hs hy
  simp only [awpOps, awpOp, awpIndex, ht, hx, hi]
  exact ⟨h0, hn, hw, hsz, hd, h⟩
theorem n_appendNew {t : TypeId} {x y : Operand} (hd : d < N) {e : TypeId} {ex : Bool} {xs ys : List D} {z : Value} {by_ : Nat} (he : elemT P t = some e) (hz : zeroOf P e = some z) (hx : S.eval x = .d (.sl true xs)) (hy : S.eval y = .d (.sl ex ys)) (hs : szOf P e = 1) (hb : bytesOf P e = by_) (o1 : ∀ q, q ∈ xs → q.one = true) (o2 : ∀ q, q ∈ ys → q.one = true) (hp : 0 < ys.length) (h63 : ((xs.length + ys.length : Nat) : Int) ≤ 9223372036854775807) (hfit : 2 * (xs.length + ys.length) * by_ ≤ 281474976710656) (hz1 : z.oneCell' = true)
    (h : ∀ c' sp', xs.length + ys.length + sp'.length = c' → awpOps P C N ops rest (St.put { S with b := S.b ++ [some (e, xs ++ ys ++ sp')] } d (.row S.b.length (xs.length + ys.length) c')) K) : awpOps P C N ops ({ dst := some d, op := .call { callee := .builtin .append, args := #[x, y], argTypes := #[t, t] }, type := ty, pos := pos, after := af, guard := none } :: rest) S K := by
  subst hb
  simp only [awpOps, awpOp, awpBuiltin, awpAppend]
  exact .inr (.inl ⟨x, y, t, e, z, xs, ex, ys, rfl, rfl, he, hz, hx, hy, hs, o1, o2, hp, h63, hfit, hz1, fun c' sp' hc => ⟨hd, h c' sp' hc⟩⟩)
theorem n_appendRow {t : TypeId} {x y : Operand} (hd : d < N) {e : TypeId} {ex : Bool} {i n c : Nat} {xs sp ys : List D} {z : Value} {by_ : Nat} (he : elemT P t = some e) (hz : zeroOf P e = some z) (hx : S.eval x = .row i n c) (hv : S.b[i]? = some (some (e, xs ++ sp))) (hn : xs.length = n) (hc : n + sp.length = c) (hy : S.eval y = .d (.sl ex ys)) (hs : szOf P e = 1) (hb : bytesOf P e = by_) (o2 : ∀ q, q ∈ ys → q.one = true) (hp : 0 < ys.length) (h63 : ((n + ys.length : Nat) : Int) ≤ 9223372036854775807) (hfit : 2 * (n + ys.length) * by_ ≤ 281474976710656) (hz1 : z.oneCell' = true)
    (h : ∀ (j c' : Nat) (sp' : List D) (b' : List (Option (TypeId × List D))), b'[j]? = some (some (e, xs ++ ys ++ sp')) → n + ys.length + sp'.length = c' → (∀ k, k ≠ i → k < S.b.length → b'[k]? = S.b[k]?) → awpOps P C N ops rest (St.put { S with b := b' } d (.row j (n + ys.length) c')) K) : awpOps P C N ops ({ dst := some d, op := .call { callee := .builtin .append, args := #[x, y], argTypes := #[t, t] }, type := ty, pos := pos, after := af, guard := none } :: rest) S K := by
  subst hb
  simp only [awpOps, awpOp, awpBuiltin, awpAppend]
  exact .inr (.inr ⟨x, y, t, e, z, i, n, c, xs, sp, ex, ys, rfl, rfl, he, hz, hx, hv, hn, hc, hy, hs, o2, hp, h63, hfit, hz1, fun j c' sp' b' g1 g2 g3 => ⟨hd, h j c' sp' b' g1 g2 g3⟩⟩)
end
section
variable {P : Program} {Γ : World → Prop} {N : Nat} {ops : Array Oper} {S : St} {K : St → Prop} {rest : List Oper} {d : Nat} {ty : TypeId} {pos : String} {af : Array Edge} {f : FuncId} {ts : Array TypeId} {r : T}
theorem n_call0 (hd : d < N) (hC : Spec P Γ f ([].map T.d) r) (h : awpOps P (Spec P Γ) N ops rest (S.put d r) K) : awpOps P (Spec P Γ) N ops ({ dst := some d, op := .call { callee := .value (.func f), args := #[], argTypes := ts }, type := ty, pos := pos, after := af, guard := none } :: rest) S K := by
  simp only [awpOps, awpOp]
  exact ⟨r, hC, hd, h⟩
theorem n_call1 {a1 : Operand} {d1 : D} (hd : d < N) (h1 : S.eval a1 = .d d1) (hC : Spec P Γ f ([d1].map T.d) r) (h : awpOps P (Spec P Γ) N ops rest (S.put d r) K) : awpOps P (Spec P Γ) N ops ({ dst := some d, op := .call { callee := .value (.func f), args := #[a1], argTypes := ts }, type := ty, pos := pos, after := af, guard := none } :: rest) S K := by
  simp only [awpOps, awpOp]
  exact ⟨r, by simpa [h1] using hC, hd, h⟩
theorem n_call2 {a1 a2 : Operand} {d1 d2 : D} (hd : d < N) (h1 : S.eval a1 = .d d1) (h2 : S.eval a2 = .d d2) (hC : Spec P Γ f ([d1, d2].map T.d) r) (h : awpOps P (Spec P Γ) N ops rest (S.put d r) K) : awpOps P (Spec P Γ) N ops ({ dst := some d, op := .call { callee := .value (.func f), args := #[a1, a2], argTypes := ts }, type := ty, pos := pos, after := af, guard := none } :: rest) S K := by
  simp only [awpOps, awpOp]
  exact ⟨r, by simpa [h1, h2] using hC, hd, h⟩
end
end Go.Proofs.YtijebgceopddmaaDoor.Ax
end
section
set_option linter.unusedVariables false
namespace Go.Proofs.YtijebgceopddmaaDoor.Ax
theorem ty_b43 : bytesOf Tryd.prog 43 = 24 := by kernel_rfl
theorem ty_e22 : elemT Tryd.prog 22 = some 43 := by kernel_rfl
theorem ty_e29 : elemT Tryd.prog 29 = some 3 := by kernel_rfl
theorem ty_e43 : elemT Tryd.prog 43 = some 5 := by kernel_rfl
theorem ty_ei22 : (elemT Tryd.prog 22).isSome = true := by kernel_rfl
theorem ty_ei29 : (elemT Tryd.prog 29).isSome = true := by kernel_rfl
theorem ty_ei43 : (elemT Tryd.prog 43).isSome = true := by kernel_rfl
theorem ty_r43 : rowT Tryd.prog 43 = some false := by kernel_rfl
theorem ty_s3 : szOf Tryd.prog 3 = 1 := by kernel_rfl
theorem ty_s43 : szOf Tryd.prog 43 = 1 := by kernel_rfl
theorem ty_s5 : szOf Tryd.prog 5 = 1 := by kernel_rfl
theorem ty_u22 : Tryd.prog.underlying 22 = some (.slice 43) := by kernel_rfl
theorem ty_z43 : zeroOf Tryd.prog 43 = some (.slice none 0 0) := by kernel_rfl
theorem ty_zs3 : (zeroOf Tryd.prog 3).isSome = true := by kernel_rfl
theorem ty_zs43 : (zeroOf Tryd.prog 43).isSome = true := by kernel_rfl
theorem ty_zs5 : (zeroOf Tryd.prog 5).isSome = true := by kernel_rfl
end Go.Proofs.YtijebgceopddmaaDoor.Ax
end
section
set_option linter.unusedVariables false
set_option maxRecDepth 100000
namespace Go.Proofs.YtijebgceopddmaaDoor.Ax
open Go.RowKit Go.Proofs.YtijebgceopddmaaDoorW.PrintWords Go.Proofs.YtijebgceopddmaaDoor.Gf Go.Proofs.YtijebgceopddmaaDoor.Pa
theorem ev_0 : matrix_Product.f 400 [[1, 2]] [[3], [4]] = some ([[11]], 0) := by kernel_rfl
theorem ev_1 : matrix_Reduce.f 400 [[0, 2, 4], [0, 1, 2], [1, 0, 1]] = some ([[1, 0, 1], [0, 1, 2]], [0, 1], 0) := by kernel_rfl
theorem ev_2 : matrix_Solve.f 400 [[1, 0, 1], [0, 1, 2]] [5, 6] = some ([5, 6, 0], [[1, 2, 1]], 0) := by kernel_rfl
theorem ev_3 : matrix_Solve.f 400 [[1, 1], [1, 1]] [1, 2] = some ([], [], 8) := by kernel_rfl
theorem ev_4 : matrix_Inverse.f 400 [[1, 1], [0, 1]] = some ([[1, 1], [0, 1]], 0) := by kernel_rfl
theorem ev_5 : matrix_Inverse.f 400 [[1, 1], [1, 1]] = some ([], 8) := by kernel_rfl
theorem ev_6 : matrix_Express.f 400 [[1, 1, 0], [1, 1, 0], [0, 1, 1]] [1, 0, 1] = some ([1, 0, 1], 0) := by kernel_rfl
theorem ev_7 : matrix_Express.f 400 [] [0, 0] = some ([], 0) := by kernel_rfl
theorem ev_8 : matrix_Express.f 400 [] [0, 1] = some ([], 8) := by kernel_rfl
theorem ev_9 : matrix_Transpose.f 400 [[1, 2, 3]] = some ([[1], [2], [3]], 0) := by kernel_rfl
theorem ev_10 : matrix_Rank.f 400 [[1, 2], [2, 4], [0, 0]] = some (1, 0) := by kernel_rfl
theorem ev_11 : matrix_Check.f 400 [[1], []] = some 1 := by kernel_rfl
theorem ev_12 : matrix_Check.f 400 (List.replicate 49 []) = some 2 := by kernel_rfl
theorem ev_13 : quietusref05_Same.f 400 [[11]] [[11]] = some true := by kernel_rfl
theorem ev_14 : quietusref05_Same.f 400 [[1, 0, 1], [0, 1, 2]] [[1, 0, 1], [0, 1, 2]] = some true := by kernel_rfl
theorem ev_15 : quietusref05_SameList.f 400 [0, 1] [0, 1] = some true := by kernel_rfl
theorem ev_16 : quietusref05_SameRow.f 400 [5, 6, 0] [5, 6, 0] = some true := by kernel_rfl
theorem ev_17 : quietusref05_Same.f 400 [[1, 2, 1]] [[1, 2, 1]] = some true := by kernel_rfl
theorem ev_18 : quietusref05_Same.f 400 [[1, 1], [0, 1]] [[1, 1], [0, 1]] = some true := by kernel_rfl
theorem ev_19 : quietusref05_SameRow.f 400 [1, 0, 1] [1, 0, 1] = some true := by kernel_rfl
theorem ev_20 : quietusref05_Same.f 400 [[1], [2], [3]] [[1], [2], [3]] = some true := by kernel_rfl
set_option maxHeartbeats 4000000 in
theorem sp11 : Spec Tryd.prog HighIn 11 ([].map T.d) (.d (.val (.bool true))) := by
  refine spec_of Tryd.func11 rfl (by kernel_rfl) gamOk (fun _ _ _ h => h) [] (by decide) _ rfl ?_
  show awp _ _ 229 _ _ _
  refine a_seq_region ?_
  refine n_assign (by decide) (v := tB false) rfl ?_
  refine n_nil ?_
  refine a_seq_region ?_
  refine n_build (by decide) (xs := [.val (.int .u8 1), .val (.int .u8 2)]) ty_e43 ty_zs5 ty_s5 (by decide) rfl (by decide) rfl (by first | rfl | simp [D.known, D.cells]) ?_
  refine n_build (by decide) (xs := [.sl true [.val (.int .u8 1), .val (.int .u8 2)]]) ty_e22 ty_zs43 ty_s43 (by decide) rfl (by decide) rfl (by first | rfl | simp [D.known, D.cells]) ?_
  refine n_build (by decide) (xs := [.val (.int .u8 3)]) ty_e43 ty_zs5 ty_s5 (by decide) rfl (by decide) rfl (by first | rfl | simp [D.known, D.cells]) ?_
  refine n_build (by decide) (xs := [.val (.int .u8 4)]) ty_e43 ty_zs5 ty_s5 (by decide) rfl (by decide) rfl (by first | rfl | simp [D.known, D.cells]) ?_
  refine n_build (by decide) (xs := [.sl true [.val (.int .u8 3)], .sl true [.val (.int .u8 4)]]) ty_e22 ty_zs43 ty_s43 (by decide) rfl (by decide) rfl (by first | rfl | simp [D.known, D.cells]) ?_
  refine n_call2 (by decide) rfl rfl (r := .tup [(gridD .u8 [[11]]), .val (.int .i64 0)]) (spec_er (es := [gridD .u8 [[1, 2]], gridD .u8 [[3], [4]]]) (by simp [er_sl, er_val, er_nilV, er_gridD, er_rowD, gridD, rowD, iD]) (sp28 ev_0)) ?_
  refine n_move (by decide) (v := .tup [(gridD .u8 [[11]]), .val (.int .i64 0)]) rfl ?_
  refine n_extract (by decide) (t := (gridD .u8 [[11]])) rfl rfl ?_
  refine n_extract (by decide) (t := .val (.int .i64 0)) rfl rfl ?_
  refine n_assign (by decide) (v := .d ((gridD .u8 [[11]]))) rfl ?_
  refine n_assign (by decide) (v := tI 0) rfl ?_
  refine n_nil ?_
  refine a_seq_region ?_
  refine n_build (by decide) (xs := [.val (.int .u8 0), .val (.int .u8 2), .val (.int .u8 4)]) ty_e43 ty_zs5 ty_s5 (by decide) rfl (by decide) rfl (by first | rfl | simp [D.known, D.cells]) ?_
  refine n_build (by decide) (xs := [.val (.int .u8 0), .val (.int .u8 1), .val (.int .u8 2)]) ty_e43 ty_zs5 ty_s5 (by decide) rfl (by decide) rfl (by first | rfl | simp [D.known, D.cells]) ?_
  refine n_build (by decide) (xs := [.val (.int .u8 1), .val (.int .u8 0), .val (.int .u8 1)]) ty_e43 ty_zs5 ty_s5 (by decide) rfl (by decide) rfl (by first | rfl | simp [D.known, D.cells]) ?_
  refine n_build (by decide) (xs := [.sl true [.val (.int .u8 0), .val (.int .u8 2), .val (.int .u8 4)], .sl true [.val (.int .u8 0), .val (.int .u8 1), .val (.int .u8 2)], .sl true [.val (.int .u8 1), .val (.int .u8 0), .val (.int .u8 1)]]) ty_e22 ty_zs43 ty_s43 (by decide) rfl (by decide) rfl (by first | rfl | simp [D.known, D.cells]) ?_
  refine n_call1 (by decide) rfl (r := .tup [(gridD .u8 [[1, 0, 1], [0, 1, 2]]), (rowD .i64 [0, 1]), .val (.int .i64 0)]) (spec_er (es := [gridD .u8 [[0, 2, 4], [0, 1, 2], [1, 0, 1]]]) (by simp [er_sl, er_val, er_nilV, er_gridD, er_rowD, gridD, rowD, iD]) (sp14 ev_1)) ?_
  refine n_move (by decide) (v := .tup [(gridD .u8 [[1, 0, 1], [0, 1, 2]]), (rowD .i64 [0, 1]), .val (.int .i64 0)]) rfl ?_
  refine n_extract (by decide) (t := (gridD .u8 [[1, 0, 1], [0, 1, 2]])) rfl rfl ?_
  refine n_extract (by decide) (t := (rowD .i64 [0, 1])) rfl rfl ?_
  refine n_extract (by decide) (t := .val (.int .i64 0)) rfl rfl ?_
  refine n_assign (by decide) (v := .d ((gridD .u8 [[1, 0, 1], [0, 1, 2]]))) rfl ?_
  refine n_assign (by decide) (v := .d ((rowD .i64 [0, 1]))) rfl ?_
  refine n_assign (by decide) (v := tI 0) rfl ?_
  refine n_nil ?_
  refine a_seq_region ?_
  refine n_build (by decide) (xs := [.val (.int .u8 1), .val (.int .u8 0), .val (.int .u8 1)]) ty_e43 ty_zs5 ty_s5 (by decide) rfl (by decide) rfl (by first | rfl | simp [D.known, D.cells]) ?_
  refine n_build (by decide) (xs := [.val (.int .u8 0), .val (.int .u8 1), .val (.int .u8 2)]) ty_e43 ty_zs5 ty_s5 (by decide) rfl (by decide) rfl (by first | rfl | simp [D.known, D.cells]) ?_
  refine n_build (by decide) (xs := [.sl true [.val (.int .u8 1), .val (.int .u8 0), .val (.int .u8 1)], .sl true [.val (.int .u8 0), .val (.int .u8 1), .val (.int .u8 2)]]) ty_e22 ty_zs43 ty_s43 (by decide) rfl (by decide) rfl (by first | rfl | simp [D.known, D.cells]) ?_
  refine n_build (by decide) (xs := [.val (.int .u8 5), .val (.int .u8 6)]) ty_e43 ty_zs5 ty_s5 (by decide) rfl (by decide) rfl (by first | rfl | simp [D.known, D.cells]) ?_
  refine n_call2 (by decide) rfl rfl (r := .tup [(rowD .u8 [5, 6, 0]), (gridD .u8 [[1, 2, 1]]), .val (.int .i64 0)]) (spec_er (es := [gridD .u8 [[1, 0, 1], [0, 1, 2]], rowD .u8 [5, 6]]) (by simp [er_sl, er_val, er_nilV, er_gridD, er_rowD, gridD, rowD, iD]) (sp21 ev_2)) ?_
  refine n_move (by decide) (v := .tup [(rowD .u8 [5, 6, 0]), (gridD .u8 [[1, 2, 1]]), .val (.int .i64 0)]) rfl ?_
  refine n_extract (by decide) (t := (rowD .u8 [5, 6, 0])) rfl rfl ?_
  refine n_extract (by decide) (t := (gridD .u8 [[1, 2, 1]])) rfl rfl ?_
  refine n_extract (by decide) (t := .val (.int .i64 0)) rfl rfl ?_
  refine n_assign (by decide) (v := .d ((rowD .u8 [5, 6, 0]))) rfl ?_
  refine n_assign (by decide) (v := .d ((gridD .u8 [[1, 2, 1]]))) rfl ?_
  refine n_assign (by decide) (v := tI 0) rfl ?_
  refine n_nil ?_
  refine a_seq_region ?_
  refine n_build (by decide) (xs := [.val (.int .u8 1), .val (.int .u8 1)]) ty_e43 ty_zs5 ty_s5 (by decide) rfl (by decide) rfl (by first | rfl | simp [D.known, D.cells]) ?_
  refine n_build (by decide) (xs := [.val (.int .u8 1), .val (.int .u8 1)]) ty_e43 ty_zs5 ty_s5 (by decide) rfl (by decide) rfl (by first | rfl | simp [D.known, D.cells]) ?_
  refine n_build (by decide) (xs := [.sl true [.val (.int .u8 1), .val (.int .u8 1)], .sl true [.val (.int .u8 1), .val (.int .u8 1)]]) ty_e22 ty_zs43 ty_s43 (by decide) rfl (by decide) rfl (by first | rfl | simp [D.known, D.cells]) ?_
  refine n_build (by decide) (xs := [.val (.int .u8 1), .val (.int .u8 2)]) ty_e43 ty_zs5 ty_s5 (by decide) rfl (by decide) rfl (by first | rfl | simp [D.known, D.cells]) ?_
  refine n_call2 (by decide) rfl rfl (r := .tup [(rowD .u8 []), (gridD .u8 []), .val (.int .i64 8)]) (spec_er (es := [gridD .u8 [[1, 1], [1, 1]], rowD .u8 [1, 2]]) (by simp [er_sl, er_val, er_nilV, er_gridD, er_rowD, gridD, rowD, iD]) (sp21 ev_3)) ?_
  refine n_move (by decide) (v := .tup [(rowD .u8 []), (gridD .u8 []), .val (.int .i64 8)]) rfl ?_
  refine n_extract (by decide) (t := (rowD .u8 [])) rfl rfl ?_
  refine n_extract (by decide) (t := (gridD .u8 [])) rfl rfl ?_
  refine n_extract (by decide) (t := .val (.int .i64 8)) rfl rfl ?_
  refine n_assign (by decide) (v := .d ((rowD .u8 []))) rfl ?_
  refine n_assign (by decide) (v := .d ((gridD .u8 []))) rfl ?_
  refine n_assign (by decide) (v := tI 8) rfl ?_
  refine n_nil ?_
  refine a_seq_region ?_
  refine n_build (by decide) (xs := [.val (.int .u8 1), .val (.int .u8 1)]) ty_e43 ty_zs5 ty_s5 (by decide) rfl (by decide) rfl (by first | rfl | simp [D.known, D.cells]) ?_
  refine n_build (by decide) (xs := [.val (.int .u8 0), .val (.int .u8 1)]) ty_e43 ty_zs5 ty_s5 (by decide) rfl (by decide) rfl (by first | rfl | simp [D.known, D.cells]) ?_
  refine n_build (by decide) (xs := [.sl true [.val (.int .u8 1), .val (.int .u8 1)], .sl true [.val (.int .u8 0), .val (.int .u8 1)]]) ty_e22 ty_zs43 ty_s43 (by decide) rfl (by decide) rfl (by first | rfl | simp [D.known, D.cells]) ?_
  refine n_call1 (by decide) rfl (r := .tup [(gridD .u8 [[1, 1], [0, 1]]), .val (.int .i64 0)]) (spec_er (es := [gridD .u8 [[1, 1], [0, 1]]]) (by simp [er_sl, er_val, er_nilV, er_gridD, er_rowD, gridD, rowD, iD]) (sp23 ev_4)) ?_
  refine n_move (by decide) (v := .tup [(gridD .u8 [[1, 1], [0, 1]]), .val (.int .i64 0)]) rfl ?_
  refine n_extract (by decide) (t := (gridD .u8 [[1, 1], [0, 1]])) rfl rfl ?_
  refine n_extract (by decide) (t := .val (.int .i64 0)) rfl rfl ?_
  refine n_assign (by decide) (v := .d ((gridD .u8 [[1, 1], [0, 1]]))) rfl ?_
  refine n_assign (by decide) (v := tI 0) rfl ?_
  refine n_nil ?_
  refine a_seq_region ?_
  refine n_build (by decide) (xs := [.val (.int .u8 1), .val (.int .u8 1)]) ty_e43 ty_zs5 ty_s5 (by decide) rfl (by decide) rfl (by first | rfl | simp [D.known, D.cells]) ?_
  refine n_build (by decide) (xs := [.val (.int .u8 1), .val (.int .u8 1)]) ty_e43 ty_zs5 ty_s5 (by decide) rfl (by decide) rfl (by first | rfl | simp [D.known, D.cells]) ?_
  refine n_build (by decide) (xs := [.sl true [.val (.int .u8 1), .val (.int .u8 1)], .sl true [.val (.int .u8 1), .val (.int .u8 1)]]) ty_e22 ty_zs43 ty_s43 (by decide) rfl (by decide) rfl (by first | rfl | simp [D.known, D.cells]) ?_
  refine n_call1 (by decide) rfl (r := .tup [(gridD .u8 []), .val (.int .i64 8)]) (spec_er (es := [gridD .u8 [[1, 1], [1, 1]]]) (by simp [er_sl, er_val, er_nilV, er_gridD, er_rowD, gridD, rowD, iD]) (sp23 ev_5)) ?_
  refine n_move (by decide) (v := .tup [(gridD .u8 []), .val (.int .i64 8)]) rfl ?_
  refine n_extract (by decide) (t := (gridD .u8 [])) rfl rfl ?_
  refine n_extract (by decide) (t := .val (.int .i64 8)) rfl rfl ?_
  refine n_assign (by decide) (v := .d ((gridD .u8 []))) rfl ?_
  refine n_assign (by decide) (v := tI 8) rfl ?_
  refine n_nil ?_
  refine a_seq_region ?_
  refine n_build (by decide) (xs := [.val (.int .u8 1), .val (.int .u8 1), .val (.int .u8 0)]) ty_e43 ty_zs5 ty_s5 (by decide) rfl (by decide) rfl (by first | rfl | simp [D.known, D.cells]) ?_
  refine n_build (by decide) (xs := [.val (.int .u8 1), .val (.int .u8 1), .val (.int .u8 0)]) ty_e43 ty_zs5 ty_s5 (by decide) rfl (by decide) rfl (by first | rfl | simp [D.known, D.cells]) ?_
  refine n_build (by decide) (xs := [.val (.int .u8 0), .val (.int .u8 1), .val (.int .u8 1)]) ty_e43 ty_zs5 ty_s5 (by decide) rfl (by decide) rfl (by first | rfl | simp [D.known, D.cells]) ?_
  refine n_build (by decide) (xs := [.sl true [.val (.int .u8 1), .val (.int .u8 1), .val (.int .u8 0)], .sl true [.val (.int .u8 1), .val (.int .u8 1), .val (.int .u8 0)], .sl true [.val (.int .u8 0), .val (.int .u8 1), .val (.int .u8 1)]]) ty_e22 ty_zs43 ty_s43 (by decide) rfl (by decide) rfl (by first | rfl | simp [D.known, D.cells]) ?_
  refine n_build (by decide) (xs := [.val (.int .u8 1), .val (.int .u8 0), .val (.int .u8 1)]) ty_e43 ty_zs5 ty_s5 (by decide) rfl (by decide) rfl (by first | rfl | simp [D.known, D.cells]) ?_
  refine n_call2 (by decide) rfl rfl (r := .tup [(rowD .u8 [1, 0, 1]), .val (.int .i64 0)]) (spec_er (es := [gridD .u8 [[1, 1, 0], [1, 1, 0], [0, 1, 1]], rowD .u8 [1, 0, 1]]) (by simp [er_sl, er_val, er_nilV, er_gridD, er_rowD, gridD, rowD, iD]) (sp25 ev_6)) ?_
  refine n_move (by decide) (v := .tup [(rowD .u8 [1, 0, 1]), .val (.int .i64 0)]) rfl ?_
  refine n_extract (by decide) (t := (rowD .u8 [1, 0, 1])) rfl rfl ?_
  refine n_extract (by decide) (t := .val (.int .i64 0)) rfl rfl ?_
  refine n_assign (by decide) (v := .d ((rowD .u8 [1, 0, 1]))) rfl ?_
  refine n_assign (by decide) (v := tI 0) rfl ?_
  refine n_nil ?_
  refine a_seq_region ?_
  refine n_build (by decide) (xs := [.val (.int .u8 0), .val (.int .u8 0)]) ty_e43 ty_zs5 ty_s5 (by decide) rfl (by decide) rfl (by first | rfl | simp [D.known, D.cells]) ?_
  refine n_call2 (by decide) rfl rfl (r := .tup [(rowD .u8 []), .val (.int .i64 0)]) (spec_er (es := [gridD .u8 [], rowD .u8 [0, 0]]) (by simp [er_sl, er_val, er_nilV, er_gridD, er_rowD, gridD, rowD, iD]) (sp25 ev_7)) ?_
  refine n_move (by decide) (v := .tup [(rowD .u8 []), .val (.int .i64 0)]) rfl ?_
  refine n_extract (by decide) (t := (rowD .u8 [])) rfl rfl ?_
  refine n_extract (by decide) (t := .val (.int .i64 0)) rfl rfl ?_
  refine n_assign (by decide) (v := .d ((rowD .u8 []))) rfl ?_
  refine n_assign (by decide) (v := tI 0) rfl ?_
  refine n_nil ?_
  refine a_seq_region ?_
  refine n_build (by decide) (xs := [.val (.int .u8 0), .val (.int .u8 1)]) ty_e43 ty_zs5 ty_s5 (by decide) rfl (by decide) rfl (by first | rfl | simp [D.known, D.cells]) ?_
  refine n_call2 (by decide) rfl rfl (r := .tup [(rowD .u8 []), .val (.int .i64 8)]) (spec_er (es := [gridD .u8 [], rowD .u8 [0, 1]]) (by simp [er_sl, er_val, er_nilV, er_gridD, er_rowD, gridD, rowD, iD]) (sp25 ev_8)) ?_
  refine n_move (by decide) (v := .tup [(rowD .u8 []), .val (.int .i64 8)]) rfl ?_
  refine n_extract (by decide) (t := (rowD .u8 [])) rfl rfl ?_
  refine n_extract (by decide) (t := .val (.int .i64 8)) rfl rfl ?_
  refine n_assign (by decide) (v := .d ((rowD .u8 []))) rfl ?_
  refine n_assign (by decide) (v := tI 8) rfl ?_
  refine n_nil ?_
  refine a_seq_region ?_
  refine n_build (by decide) (xs := [.val (.int .u8 1), .val (.int .u8 2), .val (.int .u8 3)]) ty_e43 ty_zs5 ty_s5 (by decide) rfl (by decide) rfl (by first | rfl | simp [D.known, D.cells]) ?_
  refine n_build (by decide) (xs := [.sl true [.val (.int .u8 1), .val (.int .u8 2), .val (.int .u8 3)]]) ty_e22 ty_zs43 ty_s43 (by decide) rfl (by decide) rfl (by first | rfl | simp [D.known, D.cells]) ?_
  refine n_call1 (by decide) rfl (r := .tup [(gridD .u8 [[1], [2], [3]]), .val (.int .i64 0)]) (spec_er (es := [gridD .u8 [[1, 2, 3]]]) (by simp [er_sl, er_val, er_nilV, er_gridD, er_rowD, gridD, rowD, iD]) (sp13 ev_9)) ?_
  refine n_move (by decide) (v := .tup [(gridD .u8 [[1], [2], [3]]), .val (.int .i64 0)]) rfl ?_
  refine n_extract (by decide) (t := (gridD .u8 [[1], [2], [3]])) rfl rfl ?_
  refine n_extract (by decide) (t := .val (.int .i64 0)) rfl rfl ?_
  refine n_assign (by decide) (v := .d ((gridD .u8 [[1], [2], [3]]))) rfl ?_
  refine n_assign (by decide) (v := tI 0) rfl ?_
  refine n_nil ?_
  refine a_seq_region ?_
  refine n_build (by decide) (xs := [.val (.int .u8 1), .val (.int .u8 2)]) ty_e43 ty_zs5 ty_s5 (by decide) rfl (by decide) rfl (by first | rfl | simp [D.known, D.cells]) ?_
  refine n_build (by decide) (xs := [.val (.int .u8 2), .val (.int .u8 4)]) ty_e43 ty_zs5 ty_s5 (by decide) rfl (by decide) rfl (by first | rfl | simp [D.known, D.cells]) ?_
  refine n_build (by decide) (xs := [.val (.int .u8 0), .val (.int .u8 0)]) ty_e43 ty_zs5 ty_s5 (by decide) rfl (by decide) rfl (by first | rfl | simp [D.known, D.cells]) ?_
  refine n_build (by decide) (xs := [.sl true [.val (.int .u8 1), .val (.int .u8 2)], .sl true [.val (.int .u8 2), .val (.int .u8 4)], .sl true [.val (.int .u8 0), .val (.int .u8 0)]]) ty_e22 ty_zs43 ty_s43 (by decide) rfl (by decide) rfl (by first | rfl | simp [D.known, D.cells]) ?_
  refine n_call1 (by decide) rfl (r := .tup [.val (.int .i64 1), .val (.int .i64 0)]) (spec_er (es := [gridD .u8 [[1, 2], [2, 4], [0, 0]]]) (by simp [er_sl, er_val, er_nilV, er_gridD, er_rowD, gridD, rowD, iD]) (sp15 ev_10)) ?_
  refine n_move (by decide) (v := .tup [.val (.int .i64 1), .val (.int .i64 0)]) rfl ?_
  refine n_extract (by decide) (t := .val (.int .i64 1)) rfl rfl ?_
  refine n_extract (by decide) (t := .val (.int .i64 0)) rfl rfl ?_
  refine n_assign (by decide) (v := tI 1) rfl ?_
  refine n_assign (by decide) (v := tI 0) rfl ?_
  refine n_nil ?_
  refine a_seq_region ?_
  refine n_move (by decide) (v := tI 0) rfl ?_
  refine n_int (by decide) (v := (.bool true)) rfl rfl (by first | rfl | decide) ?_
  refine n_move (by decide) (v := tB true) rfl ?_
  refine n_on rfl rfl (by decide) rfl ?_
  refine n_move (by decide) (v := tI 0) rfl ?_
  refine n_on rfl rfl (by decide) rfl ?_
  refine n_int (by decide) (v := (.bool true)) rfl rfl (by first | rfl | decide) ?_
  refine n_pick (by decide) (b := true) rfl (v := tB true) rfl ?_
  refine n_move (by decide) (v := tB true) rfl ?_
  refine n_on rfl rfl (by decide) rfl ?_
  refine n_move (by decide) (v := tI 0) rfl ?_
  refine n_on rfl rfl (by decide) rfl ?_
  refine n_int (by decide) (v := (.bool true)) rfl rfl (by first | rfl | decide) ?_
  refine n_pick (by decide) (b := true) rfl (v := tB true) rfl ?_
  refine n_move (by decide) (v := tB true) rfl ?_
  refine n_on rfl rfl (by decide) rfl ?_
  refine n_move (by decide) (v := tI 0) rfl ?_
  refine n_on rfl rfl (by decide) rfl ?_
  refine n_int (by decide) (v := (.bool true)) rfl rfl (by first | rfl | decide) ?_
  refine n_pick (by decide) (b := true) rfl (v := tB true) rfl ?_
  refine n_move (by decide) (v := tB true) rfl ?_
  refine n_on rfl rfl (by decide) rfl ?_
  refine n_move (by decide) (v := tI 0) rfl ?_
  refine n_on rfl rfl (by decide) rfl ?_
  refine n_int (by decide) (v := (.bool true)) rfl rfl (by first | rfl | decide) ?_
  refine n_pick (by decide) (b := true) rfl (v := tB true) rfl ?_
  refine n_move (by decide) (v := tB true) rfl ?_
  refine n_on rfl rfl (by decide) rfl ?_
  refine n_move (by decide) (v := tI 0) rfl ?_
  refine n_on rfl rfl (by decide) rfl ?_
  refine n_int (by decide) (v := (.bool true)) rfl rfl (by first | rfl | decide) ?_
  refine n_pick (by decide) (b := true) rfl (v := tB true) rfl ?_
  refine n_move (by decide) (v := tB true) rfl ?_
  refine n_on rfl rfl (by decide) rfl ?_
  refine n_move (by decide) (v := tI 0) rfl ?_
  refine n_on rfl rfl (by decide) rfl ?_
  refine n_int (by decide) (v := (.bool true)) rfl rfl (by first | rfl | decide) ?_
  refine n_pick (by decide) (b := true) rfl (v := tB true) rfl ?_
  refine n_move (by decide) (v := tB true) rfl ?_
  refine n_on rfl rfl (by decide) rfl ?_
  refine n_move (by decide) (v := tI 0) rfl ?_
  refine n_on rfl rfl (by decide) rfl ?_
  refine n_int (by decide) (v := (.bool true)) rfl rfl (by first | rfl | decide) ?_
  refine n_pick (by decide) (b := true) rfl (v := tB true) rfl ?_
  refine n_assign (by decide) (v := tB true) rfl ?_
  refine n_nil ?_
  refine a_seq_region ?_
  refine n_move (by decide) (v := tI 8) rfl ?_
  refine n_int (by decide) (v := (.bool true)) rfl rfl (by first | rfl | decide) ?_
  refine n_move (by decide) (v := tB true) rfl ?_
  refine n_on rfl rfl (by decide) rfl ?_
  refine n_move (by decide) (v := tI 8) rfl ?_
  refine n_on rfl rfl (by decide) rfl ?_
  refine n_int (by decide) (v := (.bool true)) rfl rfl (by first | rfl | decide) ?_
  refine n_pick (by decide) (b := true) rfl (v := tB true) rfl ?_
  refine n_move (by decide) (v := tB true) rfl ?_
  refine n_on rfl rfl (by decide) rfl ?_
  refine n_move (by decide) (v := tI 8) rfl ?_
  refine n_on rfl rfl (by decide) rfl ?_
  refine n_int (by decide) (v := (.bool true)) rfl rfl (by first | rfl | decide) ?_
  refine n_pick (by decide) (b := true) rfl (v := tB true) rfl ?_
  refine n_move (by decide) (v := tB true) rfl ?_
  refine n_on rfl rfl (by decide) rfl ?_
  refine n_build (by decide) (xs := [.val (.int .u8 1)]) ty_e43 ty_zs5 ty_s5 (by decide) rfl (by decide) rfl (by first | rfl | simp [D.known, D.cells]) ?_
  refine n_on rfl rfl (by decide) rfl ?_
  refine n_build (by decide) (xs := []) ty_e43 ty_zs5 ty_s5 (by decide) rfl (by decide) rfl (by first | rfl | simp [D.known, D.cells]) ?_
  refine n_on rfl rfl (by decide) rfl ?_
  refine n_build (by decide) (xs := [.sl true [.val (.int .u8 1)], .sl true []]) ty_e22 ty_zs43 ty_s43 (by decide) rfl (by decide) rfl (by first | rfl | simp [D.known, D.cells]) ?_
  refine n_on rfl rfl (by decide) rfl ?_
  refine n_call1 (by decide) rfl (r := tI 1) (spec_er (es := [gridD .u8 [[1], []]]) (by simp [er_sl, er_val, er_nilV, er_gridD, er_rowD, gridD, rowD, iD]) (sp16 ev_11)) ?_
  refine n_on rfl rfl (by decide) rfl ?_
  refine n_int (by decide) (v := (.bool true)) rfl rfl (by first | rfl | decide) ?_
  refine n_pick (by decide) (b := true) rfl (v := tB true) rfl ?_
  refine n_move (by decide) (v := tB true) rfl ?_
  refine n_on rfl rfl (by decide) rfl ?_
  refine n_make (by decide) (n := 49) rfl rfl ty_e22 ty_z43 ty_s43 ty_b43 (by decide) (by decide) rfl rfl (by decide) (by decide) (by decide) ?_
  refine n_on rfl rfl (by decide) rfl ?_
  refine n_call1 (by decide) rfl (r := tI 2) (spec_er (es := [gridD .u8 (List.replicate 49 [])]) (by simp [er_sl, er_val, er_nilV, gridD, rowD, iD]) (sp16 ev_12)) ?_
  refine n_on rfl rfl (by decide) rfl ?_
  refine n_int (by decide) (v := (.bool true)) rfl rfl (by first | rfl | decide) ?_
  refine n_pick (by decide) (b := true) rfl (v := tB true) rfl ?_
  refine n_assign (by decide) (v := tB true) rfl ?_
  refine n_nil ?_
  refine a_seq_region ?_
  refine n_move (by decide) (v := .d ((gridD .u8 [[11]]))) rfl ?_
  refine n_build (by decide) (xs := [.val (.int .u8 11)]) ty_e43 ty_zs5 ty_s5 (by decide) rfl (by decide) rfl (by first | rfl | simp [D.known, D.cells]) ?_
  refine n_build (by decide) (xs := [.sl true [.val (.int .u8 11)]]) ty_e22 ty_zs43 ty_s43 (by decide) rfl (by decide) rfl (by first | rfl | simp [D.known, D.cells]) ?_
  refine n_call2 (by decide) rfl rfl (r := tB true) (spec_er (es := [gridD .u8 [[11]], gridD .u8 [[11]]]) (by simp [er_sl, er_val, er_nilV, er_gridD, er_rowD, gridD, rowD, iD]) (sp19 ev_13)) ?_
  refine n_move (by decide) (v := tB true) rfl ?_
  refine n_on rfl rfl (by decide) rfl ?_
  refine n_move (by decide) (v := .d ((gridD .u8 [[1, 0, 1], [0, 1, 2]]))) rfl ?_
  refine n_on rfl rfl (by decide) rfl ?_
  refine n_build (by decide) (xs := [.val (.int .u8 1), .val (.int .u8 0), .val (.int .u8 1)]) ty_e43 ty_zs5 ty_s5 (by decide) rfl (by decide) rfl (by first | rfl | simp [D.known, D.cells]) ?_
  refine n_on rfl rfl (by decide) rfl ?_
  refine n_build (by decide) (xs := [.val (.int .u8 0), .val (.int .u8 1), .val (.int .u8 2)]) ty_e43 ty_zs5 ty_s5 (by decide) rfl (by decide) rfl (by first | rfl | simp [D.known, D.cells]) ?_
  refine n_on rfl rfl (by decide) rfl ?_
  refine n_build (by decide) (xs := [.sl true [.val (.int .u8 1), .val (.int .u8 0), .val (.int .u8 1)], .sl true [.val (.int .u8 0), .val (.int .u8 1), .val (.int .u8 2)]]) ty_e22 ty_zs43 ty_s43 (by decide) rfl (by decide) rfl (by first | rfl | simp [D.known, D.cells]) ?_
  refine n_on rfl rfl (by decide) rfl ?_
  refine n_call2 (by decide) rfl rfl (r := tB true) (spec_er (es := [gridD .u8 [[1, 0, 1], [0, 1, 2]], gridD .u8 [[1, 0, 1], [0, 1, 2]]]) (by simp [er_sl, er_val, er_nilV, er_gridD, er_rowD, gridD, rowD, iD]) (sp19 ev_14)) ?_
  refine n_pick (by decide) (b := true) rfl (v := tB true) rfl ?_
  refine n_move (by decide) (v := tB true) rfl ?_
  refine n_on rfl rfl (by decide) rfl ?_
  refine n_move (by decide) (v := .d ((rowD .i64 [0, 1]))) rfl ?_
  refine n_on rfl rfl (by decide) rfl ?_
  refine n_build (by decide) (xs := [.val (.int .i64 0), .val (.int .i64 1)]) ty_e29 ty_zs3 ty_s3 (by decide) rfl (by decide) rfl (by first | rfl | simp [D.known, D.cells]) ?_
  refine n_on rfl rfl (by decide) rfl ?_
  refine n_call2 (by decide) rfl rfl (r := tB true) (spec_er (es := [rowD .i64 [0, 1], rowD .i64 [0, 1]]) (by simp [er_sl, er_val, er_nilV, er_gridD, er_rowD, gridD, rowD, iD]) (sp20 ev_15)) ?_
  refine n_pick (by decide) (b := true) rfl (v := tB true) rfl ?_
  refine n_move (by decide) (v := tB true) rfl ?_
  refine n_on rfl rfl (by decide) rfl ?_
  refine n_move (by decide) (v := .d ((rowD .u8 [5, 6, 0]))) rfl ?_
  refine n_on rfl rfl (by decide) rfl ?_
  refine n_build (by decide) (xs := [.val (.int .u8 5), .val (.int .u8 6), .val (.int .u8 0)]) ty_e43 ty_zs5 ty_s5 (by decide) rfl (by decide) rfl (by first | rfl | simp [D.known, D.cells]) ?_
  refine n_on rfl rfl (by decide) rfl ?_
  refine n_call2 (by decide) rfl rfl (r := tB true) (spec_er (es := [rowD .u8 [5, 6, 0], rowD .u8 [5, 6, 0]]) (by simp [er_sl, er_val, er_nilV, er_gridD, er_rowD, gridD, rowD, iD]) (sp27 ev_16)) ?_
  refine n_pick (by decide) (b := true) rfl (v := tB true) rfl ?_
  refine n_move (by decide) (v := tB true) rfl ?_
  refine n_on rfl rfl (by decide) rfl ?_
  refine n_move (by decide) (v := .d ((gridD .u8 [[1, 2, 1]]))) rfl ?_
  refine n_on rfl rfl (by decide) rfl ?_
  refine n_build (by decide) (xs := [.val (.int .u8 1), .val (.int .u8 2), .val (.int .u8 1)]) ty_e43 ty_zs5 ty_s5 (by decide) rfl (by decide) rfl (by first | rfl | simp [D.known, D.cells]) ?_
  refine n_on rfl rfl (by decide) rfl ?_
  refine n_build (by decide) (xs := [.sl true [.val (.int .u8 1), .val (.int .u8 2), .val (.int .u8 1)]]) ty_e22 ty_zs43 ty_s43 (by decide) rfl (by decide) rfl (by first | rfl | simp [D.known, D.cells]) ?_
  refine n_on rfl rfl (by decide) rfl ?_
  refine n_call2 (by decide) rfl rfl (r := tB true) (spec_er (es := [gridD .u8 [[1, 2, 1]], gridD .u8 [[1, 2, 1]]]) (by simp [er_sl, er_val, er_nilV, er_gridD, er_rowD, gridD, rowD, iD]) (sp19 ev_17)) ?_
  refine n_pick (by decide) (b := true) rfl (v := tB true) rfl ?_
  refine n_assign (by decide) (v := tB true) rfl ?_
  refine n_nil ?_
  refine a_seq_region ?_
  refine n_move (by decide) (v := .d ((gridD .u8 [[1, 1], [0, 1]]))) rfl ?_
  refine n_build (by decide) (xs := [.val (.int .u8 1), .val (.int .u8 1)]) ty_e43 ty_zs5 ty_s5 (by decide) rfl (by decide) rfl (by first | rfl | simp [D.known, D.cells]) ?_
  refine n_build (by decide) (xs := [.val (.int .u8 0), .val (.int .u8 1)]) ty_e43 ty_zs5 ty_s5 (by decide) rfl (by decide) rfl (by first | rfl | simp [D.known, D.cells]) ?_
  refine n_build (by decide) (xs := [.sl true [.val (.int .u8 1), .val (.int .u8 1)], .sl true [.val (.int .u8 0), .val (.int .u8 1)]]) ty_e22 ty_zs43 ty_s43 (by decide) rfl (by decide) rfl (by first | rfl | simp [D.known, D.cells]) ?_
  refine n_call2 (by decide) rfl rfl (r := tB true) (spec_er (es := [gridD .u8 [[1, 1], [0, 1]], gridD .u8 [[1, 1], [0, 1]]]) (by simp [er_sl, er_val, er_nilV, er_gridD, er_rowD, gridD, rowD, iD]) (sp19 ev_18)) ?_
  refine n_move (by decide) (v := tB true) rfl ?_
  refine n_on rfl rfl (by decide) rfl ?_
  refine n_move (by decide) (v := .d ((rowD .u8 [1, 0, 1]))) rfl ?_
  refine n_on rfl rfl (by decide) rfl ?_
  refine n_build (by decide) (xs := [.val (.int .u8 1), .val (.int .u8 0), .val (.int .u8 1)]) ty_e43 ty_zs5 ty_s5 (by decide) rfl (by decide) rfl (by first | rfl | simp [D.known, D.cells]) ?_
  refine n_on rfl rfl (by decide) rfl ?_
  refine n_call2 (by decide) rfl rfl (r := tB true) (spec_er (es := [rowD .u8 [1, 0, 1], rowD .u8 [1, 0, 1]]) (by simp [er_sl, er_val, er_nilV, er_gridD, er_rowD, gridD, rowD, iD]) (sp27 ev_19)) ?_
  refine n_pick (by decide) (b := true) rfl (v := tB true) rfl ?_
  refine n_move (by decide) (v := tB true) rfl ?_
  refine n_on rfl rfl (by decide) rfl ?_
  refine n_move (by decide) (v := .d ((rowD .u8 []))) rfl ?_
  refine n_on rfl rfl (by decide) rfl ?_
  refine n_len (by decide) (xs := _) rfl rfl rfl ty_ei43 (n := 0) (by simp) (fun hl_204 => ?_)
  refine n_on rfl rfl (by decide) rfl ?_
  refine n_int (by decide) (v := (.bool true)) rfl rfl (by first | rfl | decide) ?_
  refine n_pick (by decide) (b := true) rfl (v := tB true) rfl ?_
  refine n_move (by decide) (v := tB true) rfl ?_
  refine n_on rfl rfl (by decide) rfl ?_
  refine n_move (by decide) (v := .d ((gridD .u8 [[1], [2], [3]]))) rfl ?_
  refine n_on rfl rfl (by decide) rfl ?_
  refine n_build (by decide) (xs := [.val (.int .u8 1)]) ty_e43 ty_zs5 ty_s5 (by decide) rfl (by decide) rfl (by first | rfl | simp [D.known, D.cells]) ?_
  refine n_on rfl rfl (by decide) rfl ?_
  refine n_build (by decide) (xs := [.val (.int .u8 2)]) ty_e43 ty_zs5 ty_s5 (by decide) rfl (by decide) rfl (by first | rfl | simp [D.known, D.cells]) ?_
  refine n_on rfl rfl (by decide) rfl ?_
  refine n_build (by decide) (xs := [.val (.int .u8 3)]) ty_e43 ty_zs5 ty_s5 (by decide) rfl (by decide) rfl (by first | rfl | simp [D.known, D.cells]) ?_
  refine n_on rfl rfl (by decide) rfl ?_
  refine n_build (by decide) (xs := [.sl true [.val (.int .u8 1)], .sl true [.val (.int .u8 2)], .sl true [.val (.int .u8 3)]]) ty_e22 ty_zs43 ty_s43 (by decide) rfl (by decide) rfl (by first | rfl | simp [D.known, D.cells]) ?_
  refine n_on rfl rfl (by decide) rfl ?_
  refine n_call2 (by decide) rfl rfl (r := tB true) (spec_er (es := [gridD .u8 [[1], [2], [3]], gridD .u8 [[1], [2], [3]]]) (by simp [er_sl, er_val, er_nilV, er_gridD, er_rowD, gridD, rowD, iD]) (sp19 ev_20)) ?_
  refine n_pick (by decide) (b := true) rfl (v := tB true) rfl ?_
  refine n_move (by decide) (v := tB true) rfl ?_
  refine n_on rfl rfl (by decide) rfl ?_
  refine n_move (by decide) (v := tI 1) rfl ?_
  refine n_on rfl rfl (by decide) rfl ?_
  refine n_int (by decide) (v := (.bool true)) rfl rfl (by first | rfl | decide) ?_
  refine n_pick (by decide) (b := true) rfl (v := tB true) rfl ?_
  refine n_assign (by decide) (v := tB true) rfl ?_
  refine n_nil ?_
  refine a_seq_region ?_
  refine n_move (by decide) (v := tB true) rfl ?_
  refine n_move (by decide) (v := tB true) rfl ?_
  refine n_on rfl rfl (by decide) rfl ?_
  refine n_move (by decide) (v := tB true) rfl ?_
  refine n_pick (by decide) (b := true) rfl (v := tB true) rfl ?_
  refine n_move (by decide) (v := tB true) rfl ?_
  refine n_on rfl rfl (by decide) rfl ?_
  refine n_move (by decide) (v := tB true) rfl ?_
  refine n_pick (by decide) (b := true) rfl (v := tB true) rfl ?_
  refine n_move (by decide) (v := tB true) rfl ?_
  refine n_on rfl rfl (by decide) rfl ?_
  refine n_move (by decide) (v := tB true) rfl ?_
  refine n_pick (by decide) (b := true) rfl (v := tB true) rfl ?_
  refine n_assign (by decide) (v := tB true) rfl ?_
  refine n_nil ?_
  exact a_ret ⟨.inr rfl, rfl⟩
end Go.Proofs.YtijebgceopddmaaDoor.Ax
end
section
set_option linter.unusedVariables false
set_option linter.unusedSimpArgs false
namespace Go.Proofs.YtijebgceopddmaaDoor.Ax
open Go.RowKit
section
variable {P : Program} {C : FuncId → List T → T → Prop} {N : Nat} {S : St} {Q : Exit → St → Prop} {x y z c : Code} {i : Nat}
abbrev BQ (P : Program) (C : FuncId → List T → T → Prop) (N i : Nat) (z : Code) (Q : Exit → St → Prop) : Exit → St → Prop := fun e S => match e with
  | .normal => awp P C N z Q S
  | .exit j => if j = i then awp P C N z Q S else Q (.exit j) S
  | e => Q e S
abbrev LQ (P : Program) (C : FuncId → List T → T → Prop) (N : Nat) (I : Nat → St → Prop) (n i : Nat) (z : Code) (Q : Exit → St → Prop) : Exit → St → Prop := fun e S => match e with
  | .normal => ∃ m, m < n ∧ I m S
  | .exit j => if j = i then awp P C N z Q S else Q (.exit j) S
  | e => Q e S
theorem a_seq_block (h : awp P C N c (BQ P C N i z Q) S) : awp P C N (.seq (.block i c) z) Q S := by
  simp only [awp] at h ⊢
  refine Eq.mp ?_ h
  congr 1
  funext e S'
  cases e with
  | exit j => by_cases hj : j = i <;> simp [BQ, hj]
  | _ => rfl
theorem a_seq_loop (I : Nat → St → Prop) (n : Nat) (h0 : I n S) (h : ∀ n S, I n S → awp P C N c (LQ P C N I n i z Q) S) : awp P C N (.seq (.block i (.loop c)) z) Q S := by
  simp only [awp]
  refine ⟨I, n, h0, fun n S hI => ?_⟩
  refine Eq.mp ?_ (h n S hI)
  congr 1
  funext e S'
  cases e with
  | exit j => by_cases hj : j = i <;> simp [LQ, hj]
  | _ => rfl
theorem a_seq_exit (h : Q (.exit i) S) : awp P C N (.seq (.exit i) z) Q S := h
theorem l_exit {I : Nat → St → Prop} {n : Nat} (h : awp P C N z Q S) : LQ P C N I n i z Q (.exit i) S := by
  show (if i = i then _ else _)
  rw [if_pos rfl]; exact h
theorem l_normal {I : Nat → St → Prop} {n : Nat} (m : Nat) (hm : m < n) (h : I m S) : LQ P C N I n i z Q .normal S := ⟨m, hm, h⟩
theorem b_normal (h : awp P C N z Q S) : BQ P C N i z Q .normal S := h
end
section
variable {k : IntKind} {x y : Int}
theorem lssT (h : x < y) : intOp .lss k x y = some (.bool true) := by simp [intOp, h]
theorem lssF (h : ¬ x < y) : intOp .lss k x y = some (.bool false) := by simp [intOp, h]
theorem leqT (h : x ≤ y) : intOp .leq k x y = some (.bool true) := by simp [intOp, h]
theorem gtrF (h : ¬ y < x) : intOp .gtr k x y = some (.bool false) := by simp [intOp, h]
end
theorem wrap_i64 {x : Int} (h1 : -9223372036854775808 ≤ x) (h2 : x ≤ 9223372036854775807) : IntKind.i64.wrap x = x := by
  unfold IntKind.wrap; simp [IntKind.bits, IntKind.signed]; omega
theorem addC {i : Nat} (h : i < 4611686018427387904) : intOp .add .i64 ((i : Nat) : Int) 1 = some (.int .i64 ((i + 1 : Nat) : Int)) := by
  simp only [intOp]
  rw [wrap_i64 (by omega) (by omega)]; rfl
theorem subI {x y z : Int} (h : x - y = z) (h1 : -9223372036854775808 ≤ z) (h2 : z ≤ 9223372036854775807) : intOp .sub .i64 x y = some (.int .i64 z) := by
  subst h
  simp only [intOp]
  rw [wrap_i64 h1 h2]
section
variable {k : IntKind} {xs : List Int} {m : List (List Int)}
theorem wide_grid : Wide 1 (m.map (rowD k)) := fun x hx => by
  obtain ⟨n, _, rfl⟩ := List.mem_map.1 hx; rfl
theorem atd_grid {i : Nat} (h : i < m.length) : (m.map (rowD k)).getD ((i : Nat) : Int).toNat .any = rowD k (m.getD i []) := by
  rw [Int.toNat_natCast, List.getD_eq_getElem?_getD, List.getD_eq_getElem?_getD, List.getElem?_map, List.getElem?_eq_getElem h]; rfl
end
end Go.Proofs.YtijebgceopddmaaDoor.Ax
end
