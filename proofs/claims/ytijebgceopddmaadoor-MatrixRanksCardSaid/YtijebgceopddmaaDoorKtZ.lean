/- For every two matrices of bytes the Go function quietuslaw05.MatrixRanks returns true and leaves its arguments as they read; the package variable gf.high reads as the program's text lays it. -/
import Derived.Test.YtijebgceopddmaaDoorKt5
import Derived.Test.YtijebgceopddmaaDoorCards
import Derived.Test.YtijebgceopddmaaDoorTie
import Derived.SevenTiedAt
set_option linter.unusedVariables false
namespace Go.Proofs.YtijebgceopddmaaDoor.LawMatrixRanks
open Go.ChangeShapes Go.WideShapes Go.ChangeAt Go.RowKit Go.Proofs.YtijebgceopddmaaDoor.Ax Go.Proofs.YtijebgceopddmaaDoor.Gf
set_option maxRecDepth 100000 in
theorem lifted (os : Os) (started : os.Started) (H : Type) (enc : TypeId × Value → H) :
    ReturnsInHanded {} Tryd.checked os 9 .any (fun w args => (Rows.matrixRanksSpec.pre enc Tryd.prog Tryd.f9 [] false w args ∧ laidMetH Tryd.prog laid w) ∧ sizedMet enc Tryd.prog Tryd.f9 (OpenSpec.ofChange Rows.matrixRanksSpec) false w args)
      (Rows.matrixRanksSpec.post enc Tryd.prog Tryd.f9 false true false false) := by
  refine returnsInHanded_of_change_and (C := Tryd.checked) (X := fun w _ => laidMetH Tryd.prog laid w) (fun _ _ _ hh h => h.of_heap hh) own started (by kernel_rfl) Tryd.func9
    (ChangeSpec.witness_shaped (enc := enc) (C := Tryd.checked) (os := os) (X := fun w _ => laidMetH Tryd.prog laid w) false (World.doorLaid Tryd.prog 400 os) #[.slice none 0 0, .slice none 0 0] 8 rfl (World.shaped_of_RefB (by kernel_rfl) (by kernel_rfl)) (by kernel_rfl) (by kernel_rfl) (by kernel_rfl) (door_met os _)) ?_
  intro W base args ds gs before hval0 hW _ _ hL _
  have hval : ∀ (j : Nat) t v, Tryd.f9.params[j]? = some t → args[j]? = some v → Value.okWide Tryd.prog W .any base t v := hval0
  have hW' := hW
  obtain ⟨p, q, hA0, hV, rfl, hfz, hnd⟩ := hW
  have hA : DataW.TrodAll enc Tryd.prog W 0 (fun _ => true) true Tryd.f9.params.toList args.toList ds p := hA0
  rw [Tryd.params9] at hA hval
  obtain ⟨v0, vs0, d0, ds0, p0, q0, hargs, rfl, rfl, h0, r0⟩ := trodAll_cons hA
  obtain ⟨v1, vs1, d1, ds1, p1, q1, rfl, rfl, rfl, h1, r1⟩ := trodAll_cons r0
  obtain ⟨rfl, rfl, rfl⟩ := trodAll_nil r1
  obtain rfl : args = #[v0, v1] := by cases args; simp_all
  obtain ⟨rfl, rfl⟩ := trodVars_none hV
  have hG : HighIn W := of_laid hL
  have k0 := h0
  have lt0 : ∀ x ∈ p0, x.block < W.heap.size := by obtain ⟨m, hm⟩ := k0; exact DataW.trod_lt m _ _ _ hm
  obtain ⟨a0, n0, c0, rfl⟩ := okWide_slice Tryd.underlying22 (hval 0 22 v0 rfl rfl)
  obtain ⟨fu0, hf0⟩ := h0
  obtain ⟨es0, rd0, ty0⟩ := trod_typed 3 fu0 22 _ _ (by kernel_rfl) hf0
  obtain ⟨m0, rfl, b0⟩ := typed_grid Tryd.underlying22 Tryd.underlying43 Tryd.underlying5 ty0
  have g0 := (rd0.2 0 _ _ rfl rfl).1
  have k1 := h1
  have lt1 : ∀ x ∈ p1, x.block < W.heap.size := by obtain ⟨m, hm⟩ := k1; exact DataW.trod_lt m _ _ _ hm
  obtain ⟨a1, n1, c1, rfl⟩ := okWide_slice Tryd.underlying22 (hval 1 22 v1 rfl rfl)
  obtain ⟨fu1, hf1⟩ := h1
  obtain ⟨es1, rd1, ty1⟩ := trod_typed 3 fu1 22 _ _ (by kernel_rfl) hf1
  obtain ⟨m1, rfl, b1⟩ := typed_grid Tryd.underlying22 Tryd.underlying43 Tryd.underlying5 ty1
  have g1 := (rd1.2 0 _ _ rfl rfl).1
  clear hA0 hval0 hval
  refine (Spec.run (ds := [gridD .u8 m0, gridD .u8 m1]) (law_MatrixRanks m0 m1 b0 b1) hG [_, _] rfl (fun i v x hv hx => ?_)).mono fun e W' hh => ?_
  · match i with
    | 0 => simp only [List.getElem?_cons_zero, List.getElem?_cons_succ, Option.some.injEq] at hv hx; subst hv hx; exact g0
    | 1 => simp only [List.getElem?_cons_zero, List.getElem?_cons_succ, Option.some.injEq] at hv hx; subst hv hx; exact g1
    | i + 2 => simp at hv
  · obtain ⟨v, rfl, hv, bel⟩ := hh
    obtain rfl := rep_int hv
    exact ⟨_, rfl, _, _, _, [], _, [], hW', trodAll_mk1 (shut_bool Tryd.underlying4 _), (trodAll_cons_mk (Below.trod laidOut (by kernel_rfl) (of_decide_eq_true (by kernel_rfl)) k0 bel lt0) (trodAll_cons_mk (Below.trod laidOut (by kernel_rfl) (of_decide_eq_true (by kernel_rfl)) k1 bel lt1) trodAll_mk0)), rfl, bel.frame _, fun h => by cases h⟩
theorem row : Rows.MatrixRanksSaid :=
  OpenClaim.holds_of_wide 9 Tryd.f9 rfl rfl rfl rfl rfl rfl rfl ⟨rfl, rfl, rfl, rfl, rfl⟩ rfl rfl rfl rfl rfl (by kernel_rfl) Tryd.func9 (by kernel_rfl)
    (of_decide_eq_true (by kernel_rfl)) (by unfold Func.isWrapper; first | (rw [if_pos (by decide +kernel)]; kernel_rfl) | (rw [if_neg (by decide +kernel)]; exact ⟨rfl, rfl⟩))
    (fun os started H enc _ => lifted os started H enc)
theorem card_holds : Rows.MatrixRanksCardSaid :=
  Claim7.holds_tied_plain_at .later [] [.data] true (true, "0c132d380c744db80062390ed1dbca7464d5ac2180740eee984a23453e027eaa") false
    row (fun _ h => by cases h) (by kernel_rfl) (fun _ h => by cases h) matrixRanks_row_tie rfl ⟨rfl, rfl⟩ (by kernel_rfl) rfl
    (fun f fn hf hfn => by
      obtain rfl : f = 9 := Option.some.inj ((show Tryd.prog.funcNamed "quietus/quietuslaw05.MatrixRanks" = some 9 by kernel_rfl).symm.trans hf) |>.symm
      obtain rfl : fn = Tryd.f9 := (Option.some.inj (Tryd.func9.symm.trans hfn)).symm
      exact ⟨by kernel_rfl, fun j t ht => by
        rw [Tryd.params9] at ht
        have hm : t ∈ [22, 22] := by simpa using Array.mem_of_getElem? ht
        have hall : ([22, 22].all fun u => !Tryd.prog.wantsStandIn u) = true := by kernel_rfl
        exact (show Tryd.prog.wantsStandIn t = false by simpa using List.all_eq_true.1 hall t hm)⟩)
    (by kernel_rfl)
end Go.Proofs.YtijebgceopddmaaDoor.LawMatrixRanks
namespace Go.Proofs.YtijebgceopddmaaDoor
/-- For every two matrices of bytes the Go function quietuslaw05.MatrixRanks returns true and leaves its arguments as they read; the package variable gf.high reads as the program's text lays it. -/
theorem matrixRanks_card : Rows.MatrixRanksCardSaid := LawMatrixRanks.card_holds
#print axioms matrixRanks_card
end Go.Proofs.YtijebgceopddmaaDoor
