/- Parts of the proof, laid together by a program of this session: AxKd, High, WTab, WFour, WFootNe, WAt, WEqStruct, WRepsOne, WInv, WInvWords, WGuard, Gf0, Gf1, Gf, KdMore, Reg, Prt0, Prt1, Prt2, GridAt, Grid0. -/
import Derived.Test.YtijebgceopddmaaDoorKs0
import Derived.Test.YtijebgceopddmaaDoorProg
import Derived.WalkKit
import Derived.KernelRfl
import Derived.Below
import Derived.Deep.QuietTactic
import Derived.BigQuiet
import Derived.Laws.BitsLemmas
import Derived.Laws.StructEq
import Derived.Deep.Draws
import Derived.Deep.AppendLies
import Derived.Maps.AppendAt
import Derived.OwnWalk
import Derived.Laws.BytesArg
import Derived.Laws.MakeOwn
import Derived.Laws.OwnMore
import Derived.Deep.OwnRows
import Derived.Tactics
import Derived.Lib.ConvBytes
import Derived.Laws.Slices
import Derived.RowKit3
import Derived.Deep.LoopGhost
import Derived.WideLaws
import Derived.Deep.DeepCutAuto
import Derived.Deep.CutBlock
import Derived.Deep.RegionHeld3
import Derived.Laws.Rows
import Derived.Lib.AppendStr
import Derived.ArgAppend
import Derived.Laws.IdiomCopy
import Derived.OrdersHeld
import Derived.RowKit
import Derived.WalkMore
import Derived.Laws.CopyOwn
set_option linter.unusedVariables false
set_option linter.unusedSimpArgs false
section
set_option linter.unusedVariables false
set_option linter.unusedSimpArgs false
namespace Go.Proofs.YtijebgceopddmaaDoor.Ax
open Go.RowKit Go.Proofs.YtijebgceopddmaaDoorW.PrintWords
def iD (k : IntKind) (n : Int) : D := .val (.int k n)
def rowD (k : IntKind) (xs : List Int) : D := .sl false (xs.map (iD k))
def gridD (k : IntKind) (xss : List (List Int)) : D := .sl false (xss.map (rowD k))
def D.er : D → D
  | .sl _ xs => .sl false (xs.map D.er)
  | .agg cs => .agg (cs.map D.er)
  | .any => .any
  | .val v => .val v
theorem er_any : D.er .any = .any := by simp [D.er]
theorem er_val (v : Value) : D.er (.val v) = .val v := by simp [D.er]
theorem er_sl (b : Bool) (xs : List D) : D.er (.sl b xs) = .sl false (xs.map D.er) := by simp [D.er]
theorem er_agg (xs : List D) : D.er (.agg xs) = .agg (xs.map D.er) := by simp [D.er]
theorem er_nilV : (ofV (Value.slice Option.none 0 0)).er = .sl false [] := er_sl true []
theorem er_cells (x : D) : x.er.cells = x.cells.map D.er := by
  cases x with
  | any => simp [er_any, D.cells]
  | val v => simp [er_val, D.cells]
  | sl b xs => simp [er_sl, D.cells]
  | agg cs => simp [er_agg, D.cells]
theorem Rep.er {ok : Nat → Prop} {W : World} {v : Value} {x : D} (h : Rep ok W v x) : Rep ok W v x.er := by
  induction h with
  | any v => rw [er_any]; exact .any v
  | val v h => rw [er_val]; exact .val v h
  | sl ex A c sz xs ad hc hm hex hA hs hok h ih =>
    rw [er_sl]
    have hx : ∀ (i : Nat) x, (xs.map D.er)[i]? = some x → ∃ x', xs[i]? = some x' ∧ x = x'.er := fun i x hx => by
      simp only [List.getElem?_map, Option.map_eq_some_iff] at hx
      obtain ⟨x', h1, h2⟩ := hx; exact ⟨x', h1, h2.symm⟩
    have hy : ∀ (x : D) (j : Nat) y, x.er.cells[j]? = some y → ∃ y', x.cells[j]? = some y' ∧ y = y'.er := fun x j y hy => by
      rw [er_cells] at hy
      simp only [List.getElem?_map, Option.map_eq_some_iff] at hy
      obtain ⟨y', h1, h2⟩ := hy; exact ⟨y', h1, h2.symm⟩
    have := Rep.sl (ok := ok) (W := W) false A c sz (xs.map D.er) ad (by simpa using hc) (by simpa using hm) (by simp) (by simpa using hA) (fun i x h1 => by
        obtain ⟨x', h2, rfl⟩ := hx i x h1
        rw [er_cells, List.length_map]; exact hs i x' h2) (fun i j x y h1 h2 => by
        obtain ⟨x', h3, rfl⟩ := hx i x h1
        obtain ⟨y', h4, rfl⟩ := hy x' j y h2
        exact hok i j x' y' h3 h4) (fun i j x y u h1 h2 hu => by
        obtain ⟨x', h3, rfl⟩ := hx i x h1
        obtain ⟨y', h4, rfl⟩ := hy x' j y h2
        exact ih i j x' y' u h3 h4 hu)
    rw [List.length_map] at this
    exact this
  | agg vs cs hl h1 h ih =>
    rw [er_agg]
    refine .agg vs _ (by simpa using hl) h1 (fun j u y hu hy => ?_)
    simp only [List.getElem?_map, Option.map_eq_some_iff] at hy
    obtain ⟨y', h2, rfl⟩ := hy
    exact ih j u y' hu h2
theorem Spec.er {P : Program} {Γ : World → Prop} {f : FuncId} {ds : List D} {r : T} (h : Spec P Γ f ((ds.map D.er).map T.d) r) : Spec P Γ f (ds.map T.d) r := by
  obtain ⟨h1, ds', h2, h3⟩ := h
  have e : ds' = ds.map D.er := by
    have hid : ∀ l : List D, (l.map T.d).map toD = l := fun l => by rw [List.map_map]; exact List.map_id l
    have := congrArg (List.map toD) h2
    rw [hid, hid] at this
    exact this.symm
  subst e
  refine ⟨h1, ds, rfl, fun ok W vs hG hl hargs => h3 ok W vs hG (by simpa using hl) (fun i v x hv hx => ?_)⟩
  simp only [List.getElem?_map, Option.map_eq_some_iff] at hx
  obtain ⟨x', hx', rfl⟩ := hx
  exact (hargs i v x' hv hx').er
theorem er_iD (k : IntKind) (n : Int) : (iD k n).er = iD k n := er_val _
theorem er_rowD (k : IntKind) (xs : List Int) : (rowD k xs).er = rowD k xs := by
  unfold rowD; rw [er_sl, List.map_map]; congr 1
  exact List.map_congr_left fun x _ => er_iD k x
theorem er_gridD (k : IntKind) (xs : List (List Int)) : (gridD k xs).er = gridD k xs := by
  unfold gridD; rw [er_sl, List.map_map]; congr 1
  exact List.map_congr_left fun x _ => er_rowD k x
theorem spec_er {P : Program} {Γ : World → Prop} {f : FuncId} {ds es : List D} {r : T} (he : ds.map D.er = es) (h : Spec P Γ f (es.map T.d) r) : Spec P Γ f (ds.map T.d) r := by subst he; exact Spec.er h
section
variable {ok : Nat → Prop} {W : World} {A : Option Addr} {n c : Nat} {ex : Bool} {k : IntKind}
theorem rep_sl_at {xs : List D} (h : Rep ok W (.slice A n c) (.sl ex xs)) : n = xs.length ∧ n ≤ c ∧ n ≤ 9223372036854775807 := by
  cases h with
  | sl _ _ _ sz _ ad hc hm hex hA hs hok hh => exact ⟨rfl, hc, hm⟩
theorem rep_slice {v : Value} {xs : List D} (h : Rep ok W v (.sl ex xs)) : ∃ A c, v = .slice A xs.length c ∧ xs.length ≤ c := by
  cases h with
  | sl _ A c sz _ ad hc hm hex hA hs hok hh => exact ⟨A, c, rfl, hc⟩
theorem rep_C_int {xs : List Int} (h : Rep ok W (.slice A n c) (rowD k xs)) : n = xs.length ∧ n ≤ c ∧ (Kd.int k).C W A n xs := by
  obtain ⟨h1, h2, h3⟩ := rep_sl_at h
  rw [List.length_map] at h1
  refine ⟨h1, h2, h1.symm, h3, fun hp => ?_⟩
  unfold rowD at h
  generalize hy : xs.map (iD k) = ys at h
  cases h with
  | sl _ _ _ sz _ ad hc hm hex hA hs hok hh =>
    refine ⟨ad, hA (by omega), fun j p hj => ⟨[.int k p], rfl, rfl, fun i u hu => ?_⟩⟩
    have hj' : ys[j]? = some (iD k p) := by rw [← hy, List.getElem?_map, hj]; rfl
    cases i with
    | succ i => simp at hu
    | zero =>
      simp only [List.getElem?_cons_zero, Option.some.injEq] at hu
      subst hu
      have hsz : sz = 1 := by rw [← hs j _ hj']; rfl
      obtain ⟨_, hc'⟩ := hok j 0 _ _ hj' rfl
      obtain ⟨u, hu⟩ := Option.isSome_iff_exists.1 hc'
      have := hh j 0 _ _ u hj' rfl hu
      rw [rep_int this] at hu
      rw [hsz] at hu
      exact hu
theorem rep_C_grid {e : Nat} {xss : List (List Int)} (h : Rep ok W (.slice A n c) (gridD k xss)) : n = xss.length ∧ n ≤ c ∧ (Kd.slice e (Kd.int k)).C W A n xss := by
  obtain ⟨h1, h2, h3⟩ := rep_sl_at h
  rw [List.length_map] at h1
  refine ⟨h1, h2, h1.symm, h3, fun hp => ?_⟩
  unfold gridD at h
  generalize hy : xss.map (rowD k) = ys at h
  cases h with
  | sl _ _ _ sz _ ad hc hm hex hA hs hok hh =>
    refine ⟨ad, hA (by omega), fun j p hj => ?_⟩
    have hj' : ys[j]? = some (rowD k p) := by rw [← hy, List.getElem?_map, hj]; rfl
    have hsz : sz = 1 := by rw [← hs j _ hj']; rfl
    obtain ⟨_, hc'⟩ := hok j 0 _ _ hj' rfl
    obtain ⟨u, hu⟩ := Option.isSome_iff_exists.1 hc'
    have hr := hh j 0 _ _ u hj' rfl hu
    obtain ⟨A', c', rfl, hle⟩ := rep_slice hr
    obtain ⟨h4, h5, h6⟩ := rep_C_int hr
    rw [List.length_map] at hle hu
    rw [List.length_map] at h6
    refine ⟨[.slice A' p.length c'], rfl, ⟨A', c', rfl, hle, h6⟩, fun i u hu' => ?_⟩
    cases i with
    | succ i => simp at hu'
    | zero =>
      simp only [List.getElem?_cons_zero, Option.some.injEq] at hu'
      subst hu'
      rw [hsz] at hu
      exact hu
theorem rep_F_grid {e : Nat} {xss : List (List Int)} (h : Rep ok W (.slice A n c) (gridD k xss)) : Kd.F (Kd.slice e (Kd.int k)) W ok A n xss := fun W' hW =>
  (rep_C_grid (h.move (ok' := ok) (W' := W') fun q h1 h2 => ⟨h1, hW q h1 h2⟩)).2.2
theorem F_rep_int {xs : List Int} (h : Kd.F (Kd.int k) W ok A n xs) (hc : n ≤ c) : Rep ok W (.slice A n c) (rowD k xs) := by
  have hl := Kd.F_len h
  subst hl
  have hel : ∀ i (hi : i < xs.length), ∃ ad, A = some ad ∧ W.cell? (ad.add i) = some (.int k xs[i]) ∧ ok ad.block := fun i hi => by
    obtain ⟨ad, c', h1, h2, h3, h4, h5⟩ := Kd.F_get h 0 (i : Int) (by omega) (by omega)
    have hK := Foot.now h3
    have e1 : xs.getD (i : Int).toNat 0 = xs[i] := by rw [Int.toNat_natCast, List.getD_eq_getElem?_getD, List.getElem?_eq_getElem hi]; rfl
    rw [e1] at hK
    have hK' : c' = [.int k xs[i]] := hK
    subst hK'
    have := h4 0 _ rfl
    rw [Int.toNat_natCast] at this
    exact ⟨ad, h1, by simpa [Kd.int, Kd.scalar] using this, h5 (Nat.zero_lt_one)⟩
  have hA : ∃ ad : Addr, 0 < xs.length → A = some ad := by
    rcases Nat.eq_zero_or_pos xs.length with h0 | h0
    · exact ⟨⟨0, 0, none⟩, fun h => by omega⟩
    · obtain ⟨ad, h1, _⟩ := hel 0 h0; exact ⟨ad, fun _ => h1⟩
  obtain ⟨ad, hA⟩ := hA
  have hget : ∀ (i : Nat) x, (xs.map (iD k))[i]? = some x → ∃ hi : i < xs.length, x = iD k xs[i] := fun i x hx => by
    simp only [List.getElem?_map, Option.map_eq_some_iff] at hx
    obtain ⟨y, hy, rfl⟩ := hx
    obtain ⟨hi, e⟩ := List.getElem?_eq_some_iff.1 hy
    exact ⟨hi, by rw [e]⟩
  have hcell : ∀ i (hi : i < xs.length), W.cell? (ad.add i) = some (.int k xs[i]) ∧ ok ad.block := fun i hi => by
    obtain ⟨ad', h1, h2, h3⟩ := hel i hi
    rw [hA (by omega)] at h1; injection h1 with h1; subst h1; exact ⟨h2, h3⟩
  have := Rep.sl (ok := ok) (W := W) false A c 1 (xs.map (iD k)) ad (by simpa using hc) (by simpa using Kd.F_max h) (by simp) (by simpa using hA) (fun i x hx => by
      obtain ⟨_, rfl⟩ := hget i x hx; rfl) (fun i j x y hx hy => by
      obtain ⟨hi, rfl⟩ := hget i x hx
      cases j with
      | succ j => simp [iD, D.cells] at hy
      | zero => rw [Nat.mul_one, Nat.add_zero, (hcell i hi).1]; exact ⟨(hcell i hi).2, rfl⟩) (fun i j x y u hx hy hu => by
      obtain ⟨hi, rfl⟩ := hget i x hx
      cases j with
      | succ j => simp [iD, D.cells] at hy
      | zero =>
        rw [Nat.mul_one, Nat.add_zero, (hcell i hi).1] at hu
        injection hu with hu; subst hu
        simp only [iD, D.cells, List.getElem?_cons_zero, Option.some.injEq] at hy
        subst hy
        exact .val _ rfl)
  rw [List.length_map] at this
  exact this
theorem F_rep_grid {e : Nat} {xss : List (List Int)} (h : Kd.F (Kd.slice e (Kd.int k)) W ok A n xss) (hc : n ≤ c) : Rep ok W (.slice A n c) (gridD k xss) := by
  have hl := Kd.F_len h
  subst hl
  have hel : ∀ i (hi : i < xss.length), ∃ ad u, A = some ad ∧ W.cell? (ad.add i) = some u ∧ ok ad.block ∧ Rep ok W u (rowD k xss[i]) := fun i hi => by
    obtain ⟨ad, c', h1, h2, h3, h4, h5⟩ := Kd.F_get h [] (i : Int) (by omega) (by omega)
    have e1 : xss.getD (i : Int).toNat [] = xss[i] := by rw [Int.toNat_natCast, List.getD_eq_getElem?_getD, List.getElem?_eq_getElem hi]; rfl
    rw [e1] at h3
    obtain ⟨A', cc, hcc, hle, _⟩ := Foot.now h3
    subst hcc
    have hF : Kd.F (Kd.int k) W ok A' xss[i].length xss[i] := fun W' hW => by
      obtain ⟨A2, c2, hcc2, _, hC⟩ := h3 W' hW
      injection hcc2 with e2 _
      injection e2 with e2 _ e3
      subst e2 e3; exact hC
    have := h4 0 _ rfl
    rw [Int.toNat_natCast] at this
    exact ⟨ad, _, h1, by simpa [Kd.slice] using this, h5 (Nat.zero_lt_one), F_rep_int hF hle⟩
  have hA : ∃ ad : Addr, 0 < xss.length → A = some ad := by
    rcases Nat.eq_zero_or_pos xss.length with h0 | h0
    · exact ⟨⟨0, 0, none⟩, fun h => by omega⟩
    · obtain ⟨ad, _, h1, _⟩ := hel 0 h0; exact ⟨ad, fun _ => h1⟩
  obtain ⟨ad, hA⟩ := hA
  have hget : ∀ (i : Nat) x, (xss.map (rowD k))[i]? = some x → ∃ hi : i < xss.length, x = rowD k xss[i] := fun i x hx => by
    simp only [List.getElem?_map, Option.map_eq_some_iff] at hx
    obtain ⟨y, hy, rfl⟩ := hx
    obtain ⟨hi, e⟩ := List.getElem?_eq_some_iff.1 hy
    exact ⟨hi, by rw [e]⟩
  have hcell : ∀ i (hi : i < xss.length), ∃ u, W.cell? (ad.add i) = some u ∧ ok ad.block ∧ Rep ok W u (rowD k xss[i]) := fun i hi => by
    obtain ⟨ad', u, h1, h2, h3, h4⟩ := hel i hi
    rw [hA (by omega)] at h1; injection h1 with h1; subst h1; exact ⟨u, h2, h3, h4⟩
  have := Rep.sl (ok := ok) (W := W) false A c 1 (xss.map (rowD k)) ad (by simpa using hc) (by simpa using Kd.F_max h) (by simp) (by simpa using hA) (fun i x hx => by
      obtain ⟨_, rfl⟩ := hget i x hx; rfl) (fun i j x y hx hy => by
      obtain ⟨hi, rfl⟩ := hget i x hx
      cases j with
      | succ j => simp [rowD, D.cells] at hy
      | zero =>
        obtain ⟨u, h1, h2, _⟩ := hcell i hi
        rw [Nat.mul_one, Nat.add_zero, h1]; exact ⟨h2, rfl⟩) (fun i j x y u hx hy hu => by
      obtain ⟨hi, rfl⟩ := hget i x hx
      cases j with
      | succ j => simp [rowD, D.cells] at hy
      | zero =>
        obtain ⟨u', h1, h2, h3⟩ := hcell i hi
        rw [Nat.mul_one, Nat.add_zero, h1] at hu
        injection hu with hu; subst hu
        simp only [rowD, D.cells, List.getElem?_cons_zero, Option.some.injEq] at hy
        subst hy
        exact h3)
  rw [List.length_map] at this
  exact this
end
section
variable {ok : Nat → Prop} {W w : World} {v : Value} {e e' base : Nat} {k : IntKind}
theorem R_rep_int {xs : List Int} (h : Kd.R (Kd.int k) e W base ok v xs) : Rep (fun q => base ≤ q) W v (rowD k xs) := by
  obtain ⟨A, c, rfl, hl, _⟩ := Kd.R_reads h
  exact F_rep_int (Kd.F_mono (Kd.R_F (Kd.R_bound h)) fun q hq => hq.2.1) hl
theorem R_rep_grid {xss : List (List Int)} (h : Kd.R (Kd.slice e' (Kd.int k)) e W base ok v xss) : Rep (fun q => base ≤ q) W v (gridD k xss) := by
  obtain ⟨A, c, rfl, hl, _⟩ := Kd.R_reads h
  exact F_rep_grid (Kd.F_mono (Kd.R_F (Kd.R_bound h)) fun q hq => hq.2.1) hl
theorem S_rep_grid {xss : List (List Int)} (h : Kd.S (Kd.slice e' (Kd.int k)) e W base ok v xss) : Rep (fun q => base ≤ q) W v (gridD k xss) := R_rep_grid (Kd.S_R h)
theorem N_rep_grid {xss : List (List Int)} (h : Kd.N (Kd.slice e' (Kd.int k)) e W base ok v xss) : Rep ok W v (gridD k xss) := by
  obtain ⟨A, c, rfl, hl, _⟩ := Kd.N_reads h
  exact F_rep_grid (Kd.N_F h) hl
end
end Go.Proofs.YtijebgceopddmaaDoor.Ax
end
section
set_option linter.unusedVariables false
namespace Go.Proofs.YtijebgceopddmaaDoor.Gf
open Go.RowKit Go.Proofs.YtijebgceopddmaaDoorW.PrintWords
def highL : List Int := [0, 29, 58, 39, 116, 105, 78, 83, 232, 245, 210, 207, 156, 129, 166, 187]
def HighIn (w : World) : Prop := ∀ j, j < 16 → w.cell? ⟨0, j, none⟩ = some (.int .u8 (highL.getD j 0))
theorem HighIn.size {w : World} (h : HighIn w) : 0 < w.heap.size := World.block_lt_of_cell? w ⟨0, 0, none⟩ (h 0 (by omega))
theorem HighIn.below {w w1 : World} (h : HighIn w) (hb : Below w.heap.size w w1) : HighIn w1 := fun j hj => (hb.cell (p := ⟨0, j, none⟩) h.size).trans (h j hj)
theorem HighIn.drewN {w : World} (h : HighIn w) (n : Nat) : HighIn (w.drewN n) := h.below (pw_below_drewN (Below.refl _ _) n)
theorem and15 (x : Int) : 0 ≤ Go.bits .and .u64 x 15 ∧ Go.bits .and .u64 x 15 < 16 := by
  unfold Go.bits
  have h1 : ∀ y : BitVec 64, (y &&& (BitVec.ofInt 64 15)).toNat < 16 := by
    intro y
    have : (y &&& (BitVec.ofInt 64 15)).toNat = y.toNat &&& 15 := by rw [BitVec.toNat_and]; rfl
    rw [this]
    exact Nat.lt_of_le_of_lt Nat.and_le_right (by omega)
  have h2 := h1 (BitVec.ofInt 64 x)
  show 0 ≤ IntKind.u64.wrap (((BitVec.ofInt 64 x &&& BitVec.ofInt 64 15).toNat : Nat) : Int) ∧ IntKind.u64.wrap (((BitVec.ofInt 64 x &&& BitVec.ofInt 64 15).toNat : Nat) : Int) < 16
  generalize (BitVec.ofInt 64 x &&& BitVec.ofInt 64 15).toNat = n at h2
  have h3 : IntKind.u64.wrap (n : Int) = (n : Int) := by
    unfold IntKind.wrap
    simp [IntKind.bits, IntKind.signed]
    omega
  rw [h3]; omega
def gf_reduce.f (a0 : Int) : Option Int := if 0 ≤ a0 then some (Go.bits .xor .u8 (a0 % 256) (highL.getD (Go.bits .and .u64 (a0 / 256) 15).toNat 0)) else none
set_option maxHeartbeats 1000000 in
theorem gf_reduce.calls (a0 r : Int) (w : World) (hG : HighIn w) (h : gf_reduce.f a0 = some r) :
    Calls Tryd.prog 54 #[.int .u64 a0] w fun e w' => e = .returned (.int .u8 r) ∧ Drawn0 w w' := by
  unfold gf_reduce.f at h
  by_cases h0 : 0 ≤ a0
  · rw [if_pos h0] at h
    obtain rfl := Option.some.inj h
    clear h
    obtain ⟨hlo, hhi⟩ := and15 (a0 / 256)
    have hc := hG (Go.bits .and .u64 (a0 / 256) 15).toNat (by omega)
    have HG := Aside0.mk hG
    clear hG
    go_enter Tryd.func54, Tryd.ntmps54
    go_wp2
    go_ret
    exact ⟨by first | rfl | (simp; done), Drawn0.refl _⟩
  · rw [if_neg h0] at h; cases h
end Go.Proofs.YtijebgceopddmaaDoor.Gf
end
section
namespace Go.Proofs.YtijebgceopddmaaDoorW.PrintLast
open Go.Proofs.YtijebgceopddmaaDoorW.PrintWords (Aside0)
def needsOf (md : Region.Mode) (o : Oper) : List Nat := (o.after.toList.filter (fun e => Region.binds md e)).map (fun e => e.on)
def clashOf (md : Region.Mode) (ops : Array Oper) (i : Nat) (oi : Oper) : List Nat := (List.range ops.size).filter fun j => !(j == i) && match ops[j]? with
  | some oj => !(oj.after.any (fun e => Region.binds md e && e.on == i) || oi.apart ops oj)
  | none => false
def rtab (md : Region.Mode) (ops : Array Oper) : Bool × List (List Nat × List Nat) := (Region.noSelect ops, (List.range ops.size).map fun i => match ops[i]? with
  | some o => (needsOf md o, clashOf md ops i o)
  | none => ([], []))
def readyAt (T : List (List Nat × List Nat)) (l : List Bool) (i : Nat) : Bool := !l.getD i true && match T[i]? with
  | some r => r.1.all (fun j => l.getD j false)
  | none => false
def readyT (T : List (List Nat × List Nat)) (l : List Bool) : List Nat := (List.range T.length).filter (readyAt T l)
def freeT (T : List (List Nat × List Nat)) (l : List Bool) (i : Nat) : Bool := match T[i]? with
  | some r => r.2.all (fun j => l.getD j true)
  | none => false
def closedT (T : List (List Nat × List Nat)) (l : List Bool) : Bool := (List.range T.length).all fun j => !l.getD j false || match T[j]? with
  | some r => r.1.all (fun k => l.getD k false)
  | none => true
def reachT (T : List (List Nat × List Nat)) (i : Nat) : Nat → Nat → Bool
  | 0, _ => false
  | fuel + 1, d => match T[d]? with
    | some r => r.1.any fun j => j == i || reachT T i fuel j
    | none => false
def lastT (T : List (List Nat × List Nat)) (l : List Bool) (ds : List Nat) (i : Nat) : Bool := ds.all fun d => l.getD d true || reachT T i T.length d
section
variable {md : Region.Mode} {ops : Array Oper} {T : Bool × List (List Nat × List Nat)} {l l' li lj lk : Array Bool} {ds : List Nat} {i j k : Nat}
theorem gd (l : Array Bool) (j : Nat) (b : Bool) : l.getD j b = l.toList.getD j b := by simp [Array.getD_eq_getD_getElem?, List.getD_eq_getElem?_getD]
theorem needs_all (o : Oper) (p : Nat → Bool) : o.after.all (fun e => !Region.binds md e || p e.on) = (needsOf md o).all p := by
  unfold needsOf
  rw [← Array.all_toList]
  induction o.after.toList with
  | nil => rfl
  | cons e r ih =>
    rw [List.all_cons, ih, List.filter_cons]
    cases h : Region.binds md e <;> simp
theorem needs_any (o : Oper) (p : Nat → Bool) : o.after.any (fun e => Region.binds md e && p e.on) = (needsOf md o).any p := by
  unfold needsOf
  rw [← Array.any_toList]
  induction o.after.toList with
  | nil => rfl
  | cons e r ih =>
    rw [List.any_cons, ih, List.filter_cons]
    cases h : Region.binds md e <;> simp
theorem rtab_length : (rtab md ops).2.length = ops.size := by simp [rtab]
theorem rtab_some {o : Oper} (h : ops[i]? = some o) : (rtab md ops).2[i]? = some (needsOf md o, clashOf md ops i o) := by
  have hi := (Array.getElem?_eq_some_iff.1 h).1
  unfold rtab
  rw [List.getElem?_map, List.getElem?_range hi, Option.map_some, h]
theorem rtab_none (h : ops[i]? = none) : (rtab md ops).2[i]? = none := by
  have hi : ops.size ≤ i := Array.getElem?_eq_none_iff.1 h
  exact List.getElem?_eq_none (by rw [rtab_length]; exact hi)
theorem readyAt_eq : readyAt (rtab md ops).2 l.toList i = (!l.getD i true && ((ops[i]?).map (·.after.all fun e => !Region.binds md e || l.getD e.on false)).getD false) := by
  unfold readyAt
  rw [gd]
  cases h : ops[i]? with
  | none => rw [rtab_none h]; rfl
  | some o =>
    rw [rtab_some h]
    simp only [Option.map_some, Option.getD_some]
    rw [← needs_all]
    simp only [gd]
theorem ready_eq : Region.ready md ops l = readyT (rtab md ops).2 l.toList := by
  unfold Region.ready readyT
  rw [rtab_length]
  refine List.filter_congr (fun i _ => ?_)
  rw [readyAt_eq]
theorem free_eq : Region.free md ops l i = freeT (rtab md ops).2 l.toList i := by
  unfold Region.free freeT
  cases h : ops[i]? with
  | none => rw [rtab_none h]
  | some oi =>
    rw [rtab_some h]
    simp only [clashOf]
    rw [List.all_filter]
    congr 1
    funext j
    rw [gd]
    cases hj : ops[j]? with
    | none => cases (j == i) <;> cases (l.toList.getD j true) <;> simp
    | some oj =>
      cases (j == i) <;> cases (l.toList.getD j true) <;> cases (oj.after.any (fun e => Region.binds md e && e.on == i) || oi.apart ops oj) <;> simp_all
theorem closed_eq : Region.closedB md ops l = closedT (rtab md ops).2 l.toList := by
  unfold Region.closedB closedT
  rw [rtab_length]
  congr 1
  funext j
  rw [gd]
  cases h : ops[j]? with
  | none => rw [rtab_none h]
  | some o =>
    rw [rtab_some h]
    simp only
    rw [← needs_all]
    simp only [gd]
theorem reach_eq : ∀ (fuel d : Nat), Region.reachB md ops i fuel d = reachT (rtab md ops).2 i fuel d
  | 0, _ => rfl
  | fuel + 1, d => by
    unfold Region.reachB reachT
    cases h : ops[d]? with
    | none => rw [rtab_none h]
    | some o =>
      rw [rtab_some h]
      simp only
      rw [← needs_any]
      congr 1
      funext e
      rw [reach_eq fuel]
theorem last_eq : Region.lastB md ops l ds i = lastT (rtab md ops).2 l.toList ds i := by
  unfold Region.lastB lastT
  rw [rtab_length]
  congr 1
  funext d
  rw [gd, reach_eq]
theorem readyAt_mem (h : readyAt T.2 l.toList i = true) (hT : rtab md ops = T) : (Region.ready md ops l).contains i = true := by
  subst hT
  rw [ready_eq]
  unfold readyT
  rw [List.contains_iff_mem, List.mem_filter, List.mem_range]
  refine ⟨?_, h⟩
  unfold readyAt at h
  rw [Bool.and_eq_true] at h
  cases hq : (rtab md ops).2[i]? with
  | none => rw [hq] at h; simp at h
  | some r => exact (List.getElem?_eq_some_iff.1 hq).1
theorem set_of (h : (l.toList.set i true == l'.toList) = true) : (l.setIfInBounds i true == l') = true := by
  rw [beq_iff_eq] at h ⊢
  apply Array.ext'
  rw [Array.toList_setIfInBounds]
  exact h
def anyT (T : Bool × List (List Nat × List Nat)) (l l' : List Bool) (i : Nat) : Bool := T.1 && freeT T.2 l i && readyAt T.2 l i && (l.set i true == l')
theorem any_of (hT : rtab md ops = T) (h : anyT T l.toList l'.toList i = true) : anyB md ops l l' i = true := by
  simp only [anyT, Bool.and_eq_true] at h
  obtain ⟨⟨⟨h1, h2⟩, h3⟩, h4⟩ := h
  have h5 := readyAt_mem h3 hT
  have h6 := set_of h4
  subst hT
  simp only [anyB, Bool.and_eq_true]
  exact ⟨⟨⟨h1, by rw [free_eq]; exact h2⟩, h5⟩, h6⟩
def takeT (T : Bool × List (List Nat × List Nat)) (ds : List Nat) (l l' : List Bool) (i : Nat) : Bool := T.1 && freeT T.2 l i && readyAt T.2 l i && closedT T.2 l && lastT T.2 l ds i && (l.set i true == l')
theorem take_of (hT : rtab md ops = T) (h : takeT T ds l.toList l'.toList i = true) : takeB md ops ds l l' i = true := by
  simp only [takeT, Bool.and_eq_true] at h
  obtain ⟨⟨⟨⟨⟨h1, h2⟩, h3⟩, h4⟩, h5⟩, h6⟩ := h
  have h7 := readyAt_mem h3 hT
  have h8 := set_of h6
  subst hT
  simp only [takeB, Bool.and_eq_true]
  exact ⟨⟨⟨⟨⟨h1, by rw [free_eq]; exact h2⟩, h7⟩, by rw [closed_eq]; exact h4⟩, by rw [last_eq]; exact h5⟩, h8⟩
theorem one_of (hT : rtab md ops = T) (h : (readyT T.2 l.toList == [i] && l.toList.set i true == l'.toList) = true) : readyB md ops l l' i = true := by
  simp only [Bool.and_eq_true] at h
  obtain ⟨h1, h2⟩ := h
  subst hT
  simp only [readyB, Bool.and_eq_true]
  exact ⟨by rw [ready_eq]; exact h1, set_of h2⟩
theorem done_of (hT : rtab md ops = T) (h : (readyT T.2 l.toList == []) = true) : (Region.ready md ops l == []) = true := by
  subst hT
  rw [ready_eq]
  exact h
def upM (B : List Nat) (d : Nat) : List Nat → Nat
  | [] => 0
  | n :: r => (2 ^ n ||| (if n < d then B.getD n 0 else 0)) ||| upM B d r
def waitsOk (T : List (List Nat × List Nat)) (B : List Nat) : Bool := (List.range T.length).all fun d => match T[d]? with
  | some r => (B.getD d 0 ||| upM B d r.1) == upM B d r.1
  | none => false
theorem upM_bit {B : List Nat} {d i : Nat} : ∀ {ns : List Nat}, (upM B d ns).testBit i = true → ∃ n ∈ ns, n = i ∨ (n < d ∧ (B.getD n 0).testBit i = true)
  | [], h => by simp [upM] at h
  | n :: r, h => by
    unfold upM at h
    rw [Nat.testBit_or, Nat.testBit_or, Bool.or_eq_true, Bool.or_eq_true] at h
    rcases h with (h | h) | h
    · rw [Nat.testBit_two_pow] at h
      exact ⟨n, List.mem_cons_self, .inl (by simpa using h)⟩
    · by_cases hn : n < d
      · rw [if_pos hn] at h
        exact ⟨n, List.mem_cons_self, .inr ⟨hn, h⟩⟩
      · rw [if_neg hn] at h
        simp at h
    · obtain ⟨m, hm, h2⟩ := upM_bit h
      exact ⟨m, List.mem_cons_of_mem _ hm, h2⟩
theorem reach_bit {T : List (List Nat × List Nat)} {B : List Nat} (hB : waitsOk T B = true) : ∀ (fuel d : Nat), d < fuel → d < T.length → (B.getD d 0).testBit i = true → reachT T i fuel d = true
  | 0, d, h, _, _ => by omega
  | fuel + 1, d, h, hd, hb => by
    have h1 := List.all_eq_true.1 hB d (List.mem_range.2 hd)
    cases hr : T[d]? with
    | none => rw [hr] at h1; simp at h1
    | some r =>
      rw [hr] at h1
      simp only [beq_iff_eq] at h1
      have h2 : (upM B d r.1).testBit i = true := by rw [← h1, Nat.testBit_or, hb, Bool.true_or]
      obtain ⟨n, hn, h3⟩ := upM_bit h2
      unfold reachT
      rw [hr]
      simp only
      rw [List.any_eq_true]
      refine ⟨n, hn, ?_⟩
      rcases h3 with rfl | ⟨h4, h5⟩
      · simp
      · rw [reach_bit hB fuel n (by omega) (by omega) h5, Bool.or_true]
def lastW (T : List (List Nat × List Nat)) (B : List Nat) (l : List Bool) (ds : List Nat) (i : Nat) : Bool := ds.all fun d => l.getD d true || (decide (d < T.length) && (B.getD d 0).testBit i)
def takeW (T : Bool × List (List Nat × List Nat)) (B : List Nat) (ds : List Nat) (l l' : List Bool) (i : Nat) : Bool := T.1 && freeT T.2 l i && readyAt T.2 l i && closedT T.2 l && lastW T.2 B l ds i && (l.set i true == l')
theorem take_ofW {B : List Nat} (hT : rtab md ops = T) (hB : waitsOk T.2 B = true) (h : takeW T B ds l.toList l'.toList i = true) : takeB md ops ds l l' i = true := by
  refine take_of hT ?_
  simp only [takeW, takeT, Bool.and_eq_true] at h ⊢
  obtain ⟨⟨⟨⟨⟨h1, h2⟩, h3⟩, h4⟩, h5⟩, h6⟩ := h
  refine ⟨⟨⟨⟨⟨h1, h2⟩, h3⟩, h4⟩, ?_⟩, h6⟩
  unfold lastW at h5
  unfold lastT
  rw [List.all_eq_true] at h5 ⊢
  intro d hd
  have h7 := h5 d hd
  rw [Bool.or_eq_true, Bool.and_eq_true, decide_eq_true_eq] at h7
  rcases h7 with h7 | ⟨h8, h9⟩
  · rw [h7, Bool.true_or]
  · rw [reach_bit hB _ d h8 h8 h9, Bool.or_true]
theorem with_tabW {P : Program} {Q : Exit → Act → World → Prop} {S : World → Prop} {n : Nat} {a : Act} {w : World} {B : List Nat} (hT : rtab md ops = T) (hB : waitsOk T.2 B = true) (h : Aside0 (rtab md ops = T) → Aside0 (waitsOk T.2 B = true) → wpAnyLast P md ops Q S ds n l a w) : wpAnyLast P md ops Q S ds n l a w := h ⟨hT⟩ ⟨hB⟩
end
def opsIn : Code → Nat → Option (Array Oper)
  | .region id ops _, k => if id == k then some ops else none
  | .seq a b, k => match opsIn a k with
    | some o => some o
    | none => opsIn b k
  | .cond _ a b, k => match opsIn a k with
    | some o => some o
    | none => opsIn b k
  | .block _ c, k => opsIn c k
  | .loop c, k => opsIn c k
  | .scope c, k => opsIn c k
  | .rangeFunc _ _ a b, k => match opsIn a k with
    | some o => some o
    | none => opsIn b k
  | _, _ => none
def opsOf (f : Func) (k : Nat) : Array Oper := ((f.body.bind fun c => opsIn c k)).getD #[]
end Go.Proofs.YtijebgceopddmaaDoorW.PrintLast
end
section
namespace Go.Proofs.YtijebgceopddmaaDoorW.PrintLast
section
variable {P : Program} {ops : Array Oper} {Q : Exit → Act → World → Prop} {md : Region.Mode} {S : World → Prop} {ds : List Nat} {T : Bool × List (List Nat × List Nat)}
end
end Go.Proofs.YtijebgceopddmaaDoorW.PrintLast
end
section
namespace Go.Proofs.YtijebgceopddmaaDoorW.PrintWords
open Go.RowKit
namespace Kd
section
variable {α : Type} {d : Kd α} {W : World} {g n : Nat} {S ok : Nat → Prop} {A : Option Addr} {ad : Addr} {xs : List α}
end
end Kd
end Go.Proofs.YtijebgceopddmaaDoorW.PrintWords
end
section
namespace Go.Proofs.YtijebgceopddmaaDoorW.PrintWords
open Go.RowKit
section
variable {w w' u : World} {m B g : Nat} {o : Obj} {row : Option Nat} {S : Nat → Prop} {a : Addr} {v : Value}
end
namespace Kd
section
variable {α : Type} {d : Kd α} {e base n m : Nat} {ok : Nat → Prop} {w w' : World} {v : Value} {A : Option Addr} {xs : List α}
end
end Kd
end Go.Proofs.YtijebgceopddmaaDoorW.PrintWords
end
section
namespace Go.Proofs.YtijebgceopddmaaDoorW.PrintWords
open Go.RowKit
section
variable {P : Program} {d : Nat} {xs ys : Array Value} {f : Field} {fs : List Field} {a b : Value} {r s : Bool} {w : World}
end
end Go.Proofs.YtijebgceopddmaaDoorW.PrintWords
end
section
namespace Go.Proofs.YtijebgceopddmaaDoorW.PrintWords
theorem Reps.one {α : Type} {R : α → List Value → Prop} {ps : List α} {cs : List Value} {p : α} {v : Value} (hp : R p [v]) (h : Reps R 1 ps cs) : Reps R 1 (p :: ps) (v :: cs) := by
  refine ⟨by simp [h.1], fun j q hq => ?_⟩
  cases j with
  | zero =>
    simp only [List.getElem?_cons_zero, Option.some.injEq] at hq
    subst hq
    simpa using hp
  | succ j =>
    simp only [List.getElem?_cons_succ] at hq
    have h1 := h.2 j q hq
    simpa [Nat.mul_one] using h1
theorem Reps.front {α : Type} {R : α → List Value → Prop} {size : Nat} {ps : List α} {cs c all : List Value} {p : α} (hp : R p c) (hc : c.length = size) (h : Reps R size ps cs) (ha : c ++ cs = all) : Reps R size (p :: ps) all := by
  subst ha
  refine ⟨by rw [List.length_append, hc, h.1, List.length_cons, Nat.succ_mul, Nat.add_comm], fun j q hq => ?_⟩
  cases j with
  | zero =>
    simp only [List.getElem?_cons_zero, Option.some.injEq] at hq
    subst hq
    rw [Nat.zero_mul, List.drop_zero, List.take_append_of_le_length (by omega), List.take_of_length_le (by omega)]
    exact hp
  | succ j =>
    simp only [List.getElem?_cons_succ] at hq
    have h1 := h.2 j q hq
    rw [Nat.succ_mul, List.drop_append, List.drop_of_length_le (by rw [hc]; exact Nat.le_add_left _ _), List.nil_append, hc, Nat.add_sub_cancel]
    exact h1
theorem Reps.c2 {α : Type} {R : α → List Value → Prop} {ps : List α} {cs : List Value} {p : α} {va vb : Value} (hp : R p [va, vb]) (h : Reps R 2 ps cs) : Reps R 2 (p :: ps) (va :: vb :: cs) := Reps.front hp rfl h rfl
theorem Reps.c3 {α : Type} {R : α → List Value → Prop} {ps : List α} {cs : List Value} {p : α} {va vb vc : Value} (hp : R p [va, vb, vc]) (h : Reps R 3 ps cs) : Reps R 3 (p :: ps) (va :: vb :: vc :: cs) := Reps.front hp rfl h rfl
theorem Reps.c4 {α : Type} {R : α → List Value → Prop} {ps : List α} {cs : List Value} {p : α} {va vb vc vd : Value} (hp : R p [va, vb, vc, vd]) (h : Reps R 4 ps cs) : Reps R 4 (p :: ps) (va :: vb :: vc :: vd :: cs) := Reps.front hp rfl h rfl
theorem Reps.c5 {α : Type} {R : α → List Value → Prop} {ps : List α} {cs : List Value} {p : α} {va vb vc vd ve : Value} (hp : R p [va, vb, vc, vd, ve]) (h : Reps R 5 ps cs) : Reps R 5 (p :: ps) (va :: vb :: vc :: vd :: ve :: cs) := Reps.front hp rfl h rfl
theorem Reps.c6 {α : Type} {R : α → List Value → Prop} {ps : List α} {cs : List Value} {p : α} {va vb vc vd ve vf : Value} (hp : R p [va, vb, vc, vd, ve, vf]) (h : Reps R 6 ps cs) : Reps R 6 (p :: ps) (va :: vb :: vc :: vd :: ve :: vf :: cs) := Reps.front hp rfl h rfl
theorem Reps.c7 {α : Type} {R : α → List Value → Prop} {ps : List α} {cs : List Value} {p : α} {va vb vc vd ve vf vg : Value} (hp : R p [va, vb, vc, vd, ve, vf, vg]) (h : Reps R 7 ps cs) : Reps R 7 (p :: ps) (va :: vb :: vc :: vd :: ve :: vf :: vg :: cs) := Reps.front hp rfl h rfl
theorem Reps.c8 {α : Type} {R : α → List Value → Prop} {ps : List α} {cs : List Value} {p : α} {va vb vc vd ve vf vg vh : Value} (hp : R p [va, vb, vc, vd, ve, vf, vg, vh]) (h : Reps R 8 ps cs) : Reps R 8 (p :: ps) (va :: vb :: vc :: vd :: ve :: vf :: vg :: vh :: cs) := Reps.front hp rfl h rfl
theorem Reps.c9 {α : Type} {R : α → List Value → Prop} {ps : List α} {cs : List Value} {p : α} {va vb vc vd ve vf vg vh vi : Value} (hp : R p [va, vb, vc, vd, ve, vf, vg, vh, vi]) (h : Reps R 9 ps cs) : Reps R 9 (p :: ps) (va :: vb :: vc :: vd :: ve :: vf :: vg :: vh :: vi :: cs) := Reps.front hp rfl h rfl
theorem Reps.c10 {α : Type} {R : α → List Value → Prop} {ps : List α} {cs : List Value} {p : α} {va vb vc vd ve vf vg vh vi vj : Value} (hp : R p [va, vb, vc, vd, ve, vf, vg, vh, vi, vj]) (h : Reps R 10 ps cs) : Reps R 10 (p :: ps) (va :: vb :: vc :: vd :: ve :: vf :: vg :: vh :: vi :: vj :: cs) := Reps.front hp rfl h rfl
end Go.Proofs.YtijebgceopddmaaDoorW.PrintWords
end
section
namespace Go.Proofs.YtijebgceopddmaaDoorW.PrintLast
def up (b : Nat → Bool) (i : Nat) : Nat → Bool := fun j => if j = i then true else b j
section
variable {P : Program} {ops : Array Oper} {Q : Exit → Act → World → Prop} {md : Region.Mode} {T : Bool × List (List Nat × List Nat)} {B : List Nat} {O : List Nat} {b : Nat → Bool} {i j n : Nat}
end
end Go.Proofs.YtijebgceopddmaaDoorW.PrintLast
end
section
namespace Go.Proofs.YtijebgceopddmaaDoorW.PrintWords
open Go.RowKit
end Go.Proofs.YtijebgceopddmaaDoorW.PrintWords
namespace Go.Proofs.YtijebgceopddmaaDoorW.PrintLast
section
variable {ops : Array Oper} {a : Act} {o og : Oper} {g : Nat} {t : Tmp} {u : Bool}
end
end Go.Proofs.YtijebgceopddmaaDoorW.PrintLast
end
section
namespace Go.Proofs.YtijebgceopddmaaDoorW.PrintWords
open Go.RowKit
section
variable {P : Program} {ops : Array Oper} {rest : List Oper} {o : Oper} {a : Act} {Q : Exit → Act → World → Prop} {W : World}
theorem gate_guard (hw : Region.wanted o (yielded ops a.tmps) = true) (h : wpList P ops Q ({ o with guard := none } :: rest) a W) : wpList P ops Q (o :: rest) a W := by
  have h1 : Region.wanted { o with guard := none } (yielded ops a.tmps) = true := rfl
  unfold wpList at h ⊢
  rw [if_pos h1] at h
  rw [if_pos hw]
  exact h
end
end Go.Proofs.YtijebgceopddmaaDoorW.PrintWords
end
section
namespace Go.Proofs.YtijebgceopddmaaDoor.Gf
open Go.RowKit Go.Proofs.YtijebgceopddmaaDoorW.PrintWords Go.Proofs.YtijebgceopddmaaDoorW.PrintLast Go.Proofs.YtijebgceopddmaaDoorW.PrintMore
attribute [local go_sem] max2_int min2_int max_two min_two max_three min_three max_four min_four   -- for this text's walks alone
set_option linter.unusedVariables false
set_option linter.unusedSimpArgs false
def errW : Option Int → Value
  | none => .nilIface
  | some c => .iface 0 (.int .i64 c)
theorem errW_none : errW none = .nilIface := rfl
theorem errW_some (c : Int) : errW (some c) = .iface 0 (.int .i64 c) := rfl
-- the values' own types
end Go.Proofs.YtijebgceopddmaaDoor.Gf
end
section
namespace Go.Proofs.YtijebgceopddmaaDoor.Gf
open Go.RowKit Go.Proofs.YtijebgceopddmaaDoorW.PrintWords Go.Proofs.YtijebgceopddmaaDoorW.PrintLast Go.Proofs.YtijebgceopddmaaDoorW.PrintMore
attribute [local go_sem] max2_int min2_int max_two min_two max_three min_three max_four min_four   -- for this text's walks alone
set_option linter.unusedVariables false
set_option linter.unusedSimpArgs false
def gf_times.l0 : Nat → Int → Int → Int → Int → Option (Int)
 | 0, _, _, _, _ => none
 | k + 1, x0, x1, x5, x7 => if x7 < 4 then (if 0 ≤ x7 then (if (Go.bits .and .u64 (shr .u64 x1 x7) 1) = 1 then (gf_times.l0 k x0 x1 (Go.bits .xor .u64 x5 (shl .u64 (IntKind.u64.wrap (x0)) x7)) (wrap64 (x7 + 1))) else (gf_times.l0 k x0 x1 x5 (wrap64 (x7 + 1)))) else (none)) else ((gf_reduce.f x5).bind fun t101 => (some t101))
def gf_times.f (k : Nat) (a0 : Int) (a1 : Int) : Option (Int) := gf_times.l0 k a0 a1 0 0
set_option maxHeartbeats 8000000 in
set_option maxRecDepth 100000 in
theorem gf_times.calls (k : Nat) (a0 : Int) (a1 : Int) (r : Int) (w : World) (hG : HighIn w) (h : gf_times.f k a0 a1 = some r) :
  Calls Tryd.prog 55 #[.int .u8 a0, .int .u64 a1] w fun e w' => e = .returned (.int .u8 r) ∧ Drawn0 w w' := by
 have HG := Aside0.mk hG
 clear hG
 have H : (gf_times.l0 k a0 a1 0 0) = some r := h
 clear h
 have H' := Aside0.mk H
 clear H
 go_enter Tryd.func55, Tryd.ntmps55
 go_wp2
 go_loopg [5, 7] k (fun kq v5 v7 w' => ∃ (x5_1 : Int) (x7_1 : Int), v5 = .int .u64 x5_1 ∧ v7 = .int .i64 x7_1 ∧ Aside0 (gf_times.l0 kq a0 a1 x5_1 x7_1 = some r) ∧ Aside0 (kq ≤ k) ∧ Drawn0 w w')
 case atStart => exact ⟨(0), (0), (by first | rfl | (simp; done) | (simp [*]; done)), (by first | rfl | (simp; done) | (simp [*]; done)), H', ⟨Nat.le_refl _⟩, by repeat (first | exact Drawn0.refl _ | apply Drawn0.step)⟩
 case round =>
  clear H'
  try clear p2
  obtain ⟨x5_1, x7_1, rfl, rfl, HA, HK1, ⟨m1, rfl⟩⟩ := hrel
  cases gk with
  | zero => exact absurd HA.out (by simp [gf_times.l0])
  | succ k1 =>
   have H := HA.out
   clear HA
   simp only [gf_times.l0] at H
   by_cases c3 : x7_1 < 4
   ·rw [if_pos c3] at H
    have c3b0 : decide (x7_1 < 4) = true := decide_eq_true c3
    clear c3
    by_cases c4 : 0 ≤ x7_1
    ·rw [if_pos c4] at H
     have c4b0 := eq_true c4
     have c4b1 : decide (0 ≤ x7_1) = true := decide_eq_true c4
     clear c4
     obtain ⟨ji5, hji5⟩ : ∃ j_ : Int, (shr .u64 a1 x7_1) = j_ := ⟨_, rfl⟩
     replace H : (if (Go.bits .and .u64 (ji5) 1) = 1 then (gf_times.l0 k1 a0 a1 (Go.bits .xor .u64 x5_1 (shl .u64 (IntKind.u64.wrap (a0)) x7_1)) (wrap64 (x7_1 + 1))) else (gf_times.l0 k1 a0 a1 x5_1 (wrap64 (x7_1 + 1)))) = some r := by first | (rw [hji5] at H; exact H) | (simp only [hji5] at H ⊢; exact H)
     have hji5_ : (a1 / 2 ^ min x7_1.toNat 64) = ji5 := hji5
     have hji5z : x7_1 ≤ 64 → (a1 / 2 ^ x7_1.toNat) = ji5 := shr_small hji5
     by_cases c6 : (Go.bits .and .u64 (ji5) 1) = 1
     ·rw [if_pos c6] at H
      have c6b0 : ((Go.bits .and .u64 (ji5) 1) == 1) = true := beq_iff_eq.mpr c6
      have c6b1 : ((Go.bits .and .u64 (ji5) 1) != 1) = false := bne_eq_false_iff_eq.mpr c6
      clear c6
      have c7b0 := eq_true (of_decide_eq_true (by first | (with_reducible assumption) | assumption) : 0 ≤ x7_1)
      obtain ⟨ji8, hji8⟩ : ∃ j_ : Int, (shl .u64 (IntKind.u64.wrap (a0)) x7_1) = j_ := ⟨_, rfl⟩
      replace H : (gf_times.l0 k1 a0 a1 (Go.bits .xor .u64 x5_1 (ji8)) (wrap64 (x7_1 + 1))) = some r := by first | (rw [hji8] at H; exact H) | (simp only [hji8] at H ⊢; exact H)
      have hji8_ : (IntKind.u64.wrap ((IntKind.u64.wrap (a0)) * 2 ^ min x7_1.toNat 64)) = ji8 := hji8
      have hji8z : x7_1 ≤ 64 → (IntKind.u64.wrap ((IntKind.u64.wrap (a0)) * 2 ^ x7_1.toNat)) = ji8 := shl_small hji8
      have H' := Aside0.mk H
      clear H
      go_wp2
      go_roundg k1
      case measure => have := HK1.out; omega
      case rel => exact ⟨(Go.bits .xor .u64 x5_1 (ji8)), (wrap64 (x7_1 + 1)), (by first | rfl | (simp; done) | (simp only [← hji8] <;> (first | rfl | simp)) | (simp [*]; done)), (by first | rfl | (simp; done) | (simp [*]; done)), H', ⟨by have := HK1.out; omega⟩, by repeat (first | exact Drawn0.refl _ | apply Drawn0.step)⟩
     ·rw [if_neg c6] at H
      have c6b0 : ((Go.bits .and .u64 (ji5) 1) == 1) = false := beq_eq_false_iff_ne.mpr c6
      have c6b1 : ((Go.bits .and .u64 (ji5) 1) != 1) = true := bne_iff_ne.mpr c6
      have H' := Aside0.mk H
      clear H
      go_wp2
      go_roundg k1
      case measure => have := HK1.out; omega
      case rel => exact ⟨(x5_1), (wrap64 (x7_1 + 1)), (by first | rfl | (simp; done) | (simp [*]; done)), (by first | rfl | (simp; done) | (simp [*]; done)), H', ⟨by have := HK1.out; omega⟩, by repeat (first | exact Drawn0.refl _ | apply Drawn0.step)⟩
    ·rw [if_neg c4] at H
     exact absurd H (by simp)
   ·rw [if_neg c3] at H
    have c3b0 : decide (x7_1 < 4) = false := decide_eq_false c3
    clear c3
    replace H := Option.bind_eq_some_iff.mp H
    obtain ⟨t101, A90, H⟩ := H
    replace H : (some t101) = some r := H
    have A9 := Aside0.mk A90
    clear A90
    obtain rfl := Option.some.inj H
    go_wp2_with (first | ((with_reducible refine gate_callee (f := 54) rfl ?_); refine goesL_ (some 23) rfl rfl Tryd.func54 (by kernel_rfl) rfl #[.int .u64 x5_1] rfl (by (try simp only [List.map_toArray, List.map_cons, List.map_nil]); first | done | rfl | (simp only [List.length_drop, List.length_take]; rfl)) ?_; (with_reducible refine (gf_reduce.calls x5_1 t101 _ ?side1 A9.out).mono ?_); (case side1 => first | (with_reducible exact HG.out) | (with_reducible exact HighIn.drewN HG.out _) | exact HighIn.below HG.out (by repeat (first | (with_reducible first | exact HB.out | apply below_alloc | apply pw_below_drewN | apply below_drew1) | exact HB.out)) | ((repeat (first | (with_reducible exact HG.out) | (with_reducible apply HighIn.drewN) | (with_reducible apply HighIn.drew) | (with_reducible apply HighIn.alloc))); done)); rintro e w' ⟨rfl, ⟨nd, rfl⟩⟩; refine ⟨_, rfl, ?_⟩))
    go_ret
    exact ⟨by first | rfl | (simp; done) | (simp [*]; done), by repeat (first | exact Drawn0.refl _ | apply Drawn0.step)⟩
def gf_Mul.f (k : Nat) (a0 : Int) (a1 : Int) : Option (Int) := (gf_times.f k a0 (IntKind.u64.wrap (a1 / 16))).bind fun t102 => ((gf_reduce.f (IntKind.u64.wrap ((IntKind.u64.wrap (t102)) * 16))).bind fun t103 => ((gf_times.f k a0 (IntKind.u64.wrap (Go.bits .and .u8 a1 15))).bind fun t104 => (some (Go.bits .xor .u8 t103 t104))))
set_option maxHeartbeats 8000000 in
set_option maxRecDepth 100000 in
theorem gf_Mul.calls (k : Nat) (a0 : Int) (a1 : Int) (r : Int) (w : World) (hG : HighIn w) (h : gf_Mul.f k a0 a1 = some r) :
  Calls Tryd.prog 48 #[.int .u8 a0, .int .u8 a1] w fun e w' => e = .returned (.int .u8 r) ∧ Drawn0 w w' := by
 have HG := Aside0.mk hG
 clear hG
 have H : ((gf_times.f k a0 (IntKind.u64.wrap (a1 / 16))).bind fun t102 => ((gf_reduce.f (IntKind.u64.wrap ((IntKind.u64.wrap (t102)) * 16))).bind fun t103 => ((gf_times.f k a0 (IntKind.u64.wrap (Go.bits .and .u8 a1 15))).bind fun t104 => (some (Go.bits .xor .u8 t103 t104))))) = some r := h
 clear h
 replace H := Option.bind_eq_some_iff.mp H
 obtain ⟨t102, A30, H⟩ := H
 replace H : ((gf_reduce.f (IntKind.u64.wrap ((IntKind.u64.wrap (t102)) * 16))).bind fun t103 => ((gf_times.f k a0 (IntKind.u64.wrap (Go.bits .and .u8 a1 15))).bind fun t104 => (some (Go.bits .xor .u8 t103 t104)))) = some r := H
 have A3 := Aside0.mk A30
 clear A30
 replace H := Option.bind_eq_some_iff.mp H
 obtain ⟨t103, A40, H⟩ := H
 replace H : ((gf_times.f k a0 (IntKind.u64.wrap (Go.bits .and .u8 a1 15))).bind fun t104 => (some (Go.bits .xor .u8 t103 t104))) = some r := H
 have A4 := Aside0.mk A40
 clear A40
 replace H := Option.bind_eq_some_iff.mp H
 obtain ⟨t104, A50, H⟩ := H
 replace H : (some (Go.bits .xor .u8 t103 t104)) = some r := H
 have A5 := Aside0.mk A50
 clear A50
 obtain rfl := Option.some.inj H
 go_enter Tryd.func48, Tryd.ntmps48
 go_wp2_with (first | ((with_reducible refine gate_callee (f := 55) rfl ?_); refine goesL_ (some 9) rfl rfl Tryd.func55 (by kernel_rfl) rfl #[.int .u8 a0, .int .u64 (IntKind.u64.wrap (a1 / 16))] rfl (by (try simp only [List.map_toArray, List.map_cons, List.map_nil]); first | done | rfl | (simp only [List.length_drop, List.length_take]; rfl)) ?_; (with_reducible refine (gf_times.calls k a0 (IntKind.u64.wrap (a1 / 16)) t102 _ ?side1 A3.out).mono ?_); (case side1 => first | (with_reducible exact HG.out) | (with_reducible exact HighIn.drewN HG.out _) | exact HighIn.below HG.out (by repeat (first | (with_reducible first | exact HB.out | apply below_alloc | apply pw_below_drewN | apply below_drew1) | exact HB.out)) | ((repeat (first | (with_reducible exact HG.out) | (with_reducible apply HighIn.drewN) | (with_reducible apply HighIn.drew) | (with_reducible apply HighIn.alloc))); done)); rintro e w' ⟨rfl, ⟨nd, rfl⟩⟩; refine ⟨_, rfl, ?_⟩) | ((with_reducible refine gate_callee (f := 54) rfl ?_); refine goesL_ (some 12) rfl rfl Tryd.func54 (by kernel_rfl) rfl #[.int .u64 (IntKind.u64.wrap ((IntKind.u64.wrap (t102)) * 16))] rfl (by (try simp only [List.map_toArray, List.map_cons, List.map_nil]); first | done | rfl | (simp only [List.length_drop, List.length_take]; rfl)) ?_; (with_reducible refine (gf_reduce.calls (IntKind.u64.wrap ((IntKind.u64.wrap (t102)) * 16)) t103 _ ?side1 A4.out).mono ?_); (case side1 => first | (with_reducible exact HG.out) | (with_reducible exact HighIn.drewN HG.out _) | exact HighIn.below HG.out (by repeat (first | (with_reducible first | exact HB.out | apply below_alloc | apply pw_below_drewN | apply below_drew1) | exact HB.out)) | ((repeat (first | (with_reducible exact HG.out) | (with_reducible apply HighIn.drewN) | (with_reducible apply HighIn.drew) | (with_reducible apply HighIn.alloc))); done)); rintro e w' ⟨rfl, ⟨nd, rfl⟩⟩; refine ⟨_, rfl, ?_⟩) | ((with_reducible refine gate_callee (f := 55) rfl ?_); refine goesL_ (some 17) rfl rfl Tryd.func55 (by kernel_rfl) rfl #[.int .u8 a0, .int .u64 (IntKind.u64.wrap (Go.bits .and .u8 a1 15))] rfl (by (try simp only [List.map_toArray, List.map_cons, List.map_nil]); first | done | rfl | (simp only [List.length_drop, List.length_take]; rfl)) ?_; (with_reducible refine (gf_times.calls k a0 (IntKind.u64.wrap (Go.bits .and .u8 a1 15)) t104 _ ?side1 A5.out).mono ?_); (case side1 => first | (with_reducible exact HG.out) | (with_reducible exact HighIn.drewN HG.out _) | exact HighIn.below HG.out (by repeat (first | (with_reducible first | exact HB.out | apply below_alloc | apply pw_below_drewN | apply below_drew1) | exact HB.out)) | ((repeat (first | (with_reducible exact HG.out) | (with_reducible apply HighIn.drewN) | (with_reducible apply HighIn.drew) | (with_reducible apply HighIn.alloc))); done)); rintro e w' ⟨rfl, ⟨nd, rfl⟩⟩; refine ⟨_, rfl, ?_⟩))
 go_ret
 exact ⟨by first | rfl | (simp; done) | (simp [*]; done), by repeat (first | exact Drawn0.refl _ | apply Drawn0.step)⟩
def gf_power.l0 : Nat → Int → Int → Int → Option (Int)
 | 0, _, _, _ => none
 | k + 1, x0, x1, x5 => if x1 > 0 then (if (Go.bits .and .i64 x1 1) = 1 then ((gf_Mul.f k x5 x0).bind fun t105 => ((gf_Mul.f k x0 x0).bind fun t106 => (gf_power.l0 k t106 (x1 / 2) t105))) else ((gf_Mul.f k x0 x0).bind fun t107 => (gf_power.l0 k t107 (x1 / 2) x5))) else (some x5)
def gf_power.f (k : Nat) (a0 : Int) (a1 : Int) : Option (Int) := gf_power.l0 k a0 a1 1
set_option maxHeartbeats 8000000 in
set_option maxRecDepth 100000 in
theorem gf_power.calls (k : Nat) (a0 : Int) (a1 : Int) (r : Int) (w : World) (hG : HighIn w) (h : gf_power.f k a0 a1 = some r) :
  Calls Tryd.prog 56 #[.int .u8 a0, .int .i64 a1] w fun e w' => e = .returned (.int .u8 r) ∧ Drawn0 w w' := by
 have HG := Aside0.mk hG
 clear hG
 have H : (gf_power.l0 k a0 a1 1) = some r := h
 clear h
 have H' := Aside0.mk H
 clear H
 go_enter Tryd.func56, Tryd.ntmps56
 go_wp2
 go_loopg [0, 1, 5] k (fun kq v0 v1 v5 w' => ∃ (x0_1 : Int) (x1_1 : Int) (x5_1 : Int), v0 = .int .u8 x0_1 ∧ v1 = .int .i64 x1_1 ∧ v5 = .int .u8 x5_1 ∧ Aside0 (gf_power.l0 kq x0_1 x1_1 x5_1 = some r) ∧ Aside0 (kq ≤ k) ∧ Drawn0 w w')
 case atStart => exact ⟨(a0), (a1), (1), (by first | rfl | (simp; done) | (simp [*]; done)), (by first | rfl | (simp; done) | (simp [*]; done)), (by first | rfl | (simp; done) | (simp [*]; done)), H', ⟨Nat.le_refl _⟩, by repeat (first | exact Drawn0.refl _ | apply Drawn0.step)⟩
 case round =>
  clear H'
  try clear p2
  obtain ⟨x0_1, x1_1, x5_1, rfl, rfl, rfl, HA, HK1, ⟨m1, rfl⟩⟩ := hrel
  cases gk with
  | zero => exact absurd HA.out (by simp [gf_power.l0])
  | succ k1 =>
   have H := HA.out
   clear HA
   simp only [gf_power.l0] at H
   by_cases c3 : x1_1 > 0
   ·rw [if_pos c3] at H
    have c3b0 : decide (0 < x1_1) = true := decide_eq_true c3
    clear c3
    by_cases c4 : (Go.bits .and .i64 x1_1 1) = 1
    ·rw [if_pos c4] at H
     have c4b0 : ((Go.bits .and .i64 x1_1 1) == 1) = true := beq_iff_eq.mpr c4
     have c4b1 : ((Go.bits .and .i64 x1_1 1) != 1) = false := bne_eq_false_iff_eq.mpr c4
     clear c4
     replace H := Option.bind_eq_some_iff.mp H
     obtain ⟨t105, A50, H⟩ := H
     replace H : ((gf_Mul.f k1 x0_1 x0_1).bind fun t106 => (gf_power.l0 k1 t106 (x1_1 / 2) t105)) = some r := H
     have A5 := Aside0.mk A50
     clear A50
     replace H := Option.bind_eq_some_iff.mp H
     obtain ⟨t106, A60, H⟩ := H
     replace H : (gf_power.l0 k1 t106 (x1_1 / 2) t105) = some r := H
     have A6 := Aside0.mk A60
     clear A60
     have H' := Aside0.mk H
     clear H
     go_wp2_with (first | ((with_reducible refine gate_callee (f := 48) rfl ?_); refine goesL_ (some 15) rfl rfl Tryd.func48 (by kernel_rfl) rfl #[.int .u8 x5_1, .int .u8 x0_1] rfl (by (try simp only [List.map_toArray, List.map_cons, List.map_nil]); first | done | rfl | (simp only [List.length_drop, List.length_take]; rfl)) ?_; (with_reducible refine (gf_Mul.calls k1 x5_1 x0_1 t105 _ ?side1 A5.out).mono ?_); (case side1 => first | (with_reducible exact HG.out) | (with_reducible exact HighIn.drewN HG.out _) | exact HighIn.below HG.out (by repeat (first | (with_reducible first | exact HB.out | apply below_alloc | apply pw_below_drewN | apply below_drew1) | exact HB.out)) | ((repeat (first | (with_reducible exact HG.out) | (with_reducible apply HighIn.drewN) | (with_reducible apply HighIn.drew) | (with_reducible apply HighIn.alloc))); done)); rintro e w' ⟨rfl, ⟨nd, rfl⟩⟩; refine ⟨_, rfl, ?_⟩) | ((with_reducible refine gate_callee (f := 48) rfl ?_); refine goesL_ (some 18) rfl rfl Tryd.func48 (by kernel_rfl) rfl #[.int .u8 x0_1, .int .u8 x0_1] rfl (by (try simp only [List.map_toArray, List.map_cons, List.map_nil]); first | done | rfl | (simp only [List.length_drop, List.length_take]; rfl)) ?_; (with_reducible refine (gf_Mul.calls k1 x0_1 x0_1 t106 _ ?side1 A6.out).mono ?_); (case side1 => first | (with_reducible exact HG.out) | (with_reducible exact HighIn.drewN HG.out _) | exact HighIn.below HG.out (by repeat (first | (with_reducible first | exact HB.out | apply below_alloc | apply pw_below_drewN | apply below_drew1) | exact HB.out)) | ((repeat (first | (with_reducible exact HG.out) | (with_reducible apply HighIn.drewN) | (with_reducible apply HighIn.drew) | (with_reducible apply HighIn.alloc))); done)); rintro e w' ⟨rfl, ⟨nd, rfl⟩⟩; refine ⟨_, rfl, ?_⟩))
     go_roundg k1
     case measure => have := HK1.out; omega
     case rel => exact ⟨(t106), (x1_1 / 2), (t105), (by first | rfl | (simp; done) | (simp [*]; done)), (by first | rfl | (simp; done) | (simp [*]; done)), (by first | rfl | (simp; done) | (simp [*]; done)), H', ⟨by have := HK1.out; omega⟩, by repeat (first | exact Drawn0.refl _ | apply Drawn0.step)⟩
    ·rw [if_neg c4] at H
     have c4b0 : ((Go.bits .and .i64 x1_1 1) == 1) = false := beq_eq_false_iff_ne.mpr c4
     have c4b1 : ((Go.bits .and .i64 x1_1 1) != 1) = true := bne_iff_ne.mpr c4
     replace H := Option.bind_eq_some_iff.mp H
     obtain ⟨t107, A70, H⟩ := H
     replace H : (gf_power.l0 k1 t107 (x1_1 / 2) x5_1) = some r := H
     have A7 := Aside0.mk A70
     clear A70
     have H' := Aside0.mk H
     clear H
     go_wp2_with (first | ((with_reducible refine gate_callee (f := 48) rfl ?_); refine goesL_ (some 18) rfl rfl Tryd.func48 (by kernel_rfl) rfl #[.int .u8 x0_1, .int .u8 x0_1] rfl (by (try simp only [List.map_toArray, List.map_cons, List.map_nil]); first | done | rfl | (simp only [List.length_drop, List.length_take]; rfl)) ?_; (with_reducible refine (gf_Mul.calls k1 x0_1 x0_1 t107 _ ?side1 A7.out).mono ?_); (case side1 => first | (with_reducible exact HG.out) | (with_reducible exact HighIn.drewN HG.out _) | exact HighIn.below HG.out (by repeat (first | (with_reducible first | exact HB.out | apply below_alloc | apply pw_below_drewN | apply below_drew1) | exact HB.out)) | ((repeat (first | (with_reducible exact HG.out) | (with_reducible apply HighIn.drewN) | (with_reducible apply HighIn.drew) | (with_reducible apply HighIn.alloc))); done)); rintro e w' ⟨rfl, ⟨nd, rfl⟩⟩; refine ⟨_, rfl, ?_⟩))
     go_roundg k1
     case measure => have := HK1.out; omega
     case rel => exact ⟨(t107), (x1_1 / 2), (x5_1), (by first | rfl | (simp; done) | (simp [*]; done)), (by first | rfl | (simp; done) | (simp [*]; done)), (by first | rfl | (simp; done) | (simp [*]; done)), H', ⟨by have := HK1.out; omega⟩, by repeat (first | exact Drawn0.refl _ | apply Drawn0.step)⟩
   ·rw [if_neg c3] at H
    have c3b0 : decide (0 < x1_1) = false := decide_eq_false c3
    clear c3
    obtain rfl := Option.some.inj H
    go_wp2
    go_ret
    exact ⟨by first | rfl | (simp; done) | (simp [*]; done), by repeat (first | exact Drawn0.refl _ | apply Drawn0.step)⟩
def gf_Inv.f (k : Nat) (a0 : Int) : Option (Int × Int) := if a0 = 0 then (some (0, 1)) else ((gf_power.f k a0 254).bind fun t108 => (some (t108, 0)))
set_option maxHeartbeats 8000000 in
set_option maxRecDepth 100000 in
theorem gf_Inv.calls (k : Nat) (a0 : Int) (r1 : Int) (r2 : Int) (w : World) (hG : HighIn w) (h : gf_Inv.f k a0 = some (r1, r2)) :
  Calls Tryd.prog 50 #[.int .u8 a0] w fun e w' => e = .returned (.tuple #[.int .u8 r1, .int .i64 r2]) ∧ Drawn0 w w' := by
 have HG := Aside0.mk hG
 clear hG
 have H : (if a0 = 0 then (some (0, 1)) else ((gf_power.f k a0 254).bind fun t108 => (some (t108, 0)))) = some (r1, r2) := h
 clear h
 by_cases c2 : a0 = 0
 ·rw [if_pos c2] at H
  have c2b0 : (a0 == 0) = true := beq_iff_eq.mpr c2
  have c2b1 : (a0 != 0) = false := bne_eq_false_iff_eq.mpr c2
  clear c2
  simp only [Option.some.injEq, Prod.mk.injEq] at H
  obtain ⟨rfl, rfl⟩ := H
  go_enter Tryd.func50, Tryd.ntmps50
  go_wp2
  go_ret2
  exact ⟨by first | rfl | (simp; done) | (simp [*]; done), by repeat (first | exact Drawn0.refl _ | apply Drawn0.step)⟩
 ·rw [if_neg c2] at H
  have c2b0 : (a0 == 0) = false := beq_eq_false_iff_ne.mpr c2
  have c2b1 : (a0 != 0) = true := bne_iff_ne.mpr c2
  replace H := Option.bind_eq_some_iff.mp H
  obtain ⟨t108, A30, H⟩ := H
  replace H : (some (t108, 0)) = some (r1, r2) := H
  have A3 := Aside0.mk A30
  clear A30
  simp only [Option.some.injEq, Prod.mk.injEq] at H
  obtain ⟨rfl, rfl⟩ := H
  go_enter Tryd.func50, Tryd.ntmps50
  go_wp2_with (first | ((with_reducible refine gate_callee (f := 56) rfl ?_); refine goesL_ (some 7) rfl rfl Tryd.func56 (by kernel_rfl) rfl #[.int .u8 a0, .int .i64 254] rfl (by (try simp only [List.map_toArray, List.map_cons, List.map_nil]); first | done | rfl | (simp only [List.length_drop, List.length_take]; rfl)) ?_; (with_reducible refine (gf_power.calls k a0 254 t108 _ ?side1 A3.out).mono ?_); (case side1 => first | (with_reducible exact HG.out) | (with_reducible exact HighIn.drewN HG.out _) | exact HighIn.below HG.out (by repeat (first | (with_reducible first | exact HB.out | apply below_alloc | apply pw_below_drewN | apply below_drew1) | exact HB.out)) | ((repeat (first | (with_reducible exact HG.out) | (with_reducible apply HighIn.drewN) | (with_reducible apply HighIn.drew) | (with_reducible apply HighIn.alloc))); done)); rintro e w' ⟨rfl, ⟨nd, rfl⟩⟩; refine ⟨_, rfl, ?_⟩))
  go_ret2
  exact ⟨by first | rfl | (simp; done) | (simp [*]; done), by repeat (first | exact Drawn0.refl _ | apply Drawn0.step)⟩
end Go.Proofs.YtijebgceopddmaaDoor.Gf
end
section
namespace Go.Proofs.YtijebgceopddmaaDoor.Gf
open Go.RowKit Go.Proofs.YtijebgceopddmaaDoorW.PrintWords Go.Proofs.YtijebgceopddmaaDoorW.PrintLast Go.Proofs.YtijebgceopddmaaDoorW.PrintMore
attribute [local go_sem] max2_int min2_int max_two min_two max_three min_three max_four min_four   -- for this text's walks alone
set_option linter.unusedVariables false
set_option linter.unusedSimpArgs false
end Go.Proofs.YtijebgceopddmaaDoor.Gf
end
section
set_option linter.unusedVariables false
namespace Go.Proofs.YtijebgceopddmaaDoor.KdMore
open Go.RowKit Go.Proofs.YtijebgceopddmaaDoorW.PrintWords Go.Proofs.YtijebgceopddmaaDoorW.PrintLast Go.Proofs.YtijebgceopddmaaDoorW.PrintMore
theorem getD_at {α : Type} {xs : List α} {i : Nat} (z : α) (h : i < xs.length) : xs[i]? = some (xs.getD i z) := by
  simp [List.getD_eq_getElem?_getD, List.getElem?_eq_getElem h]
theorem take_one {α : Type} {xs : List α} {t : Nat} {u : α} (h : xs[t]? = some u) : (xs.drop (t * 1)).take 1 = [u] := by
  obtain ⟨hl, e⟩ := List.getElem?_eq_some_iff.1 h
  rw [Nat.mul_one, List.drop_eq_getElem_cons hl, e]; rfl
section
variable {α : Type} {d : Kd α} {e et : Nat} {W : World} {base n cv : Nat} {ok : Nat → Prop} {Av : Option Addr} {rows : List (List α)}
theorem S_open (hS : Kd.S (Kd.slice et d) e W base ok (.slice Av n cv) rows) (hp : 0 < rows.length) :
    ∃ g, Av = some ⟨g, 0, none⟩ ∧ n = rows.length ∧ base ≤ g ∧ ok g ∧ ∃ (f : Nat → Nat) (inner : List Value), inner.length = rows.length ∧ W.ownsRow base e 1 (.slice (some ⟨g, 0, none⟩) n cv) n inner ∧ (∃ cells, W.heap[g]? = some (.cells cells e (0, 0))) ∧
      ∀ t x, rows[t]? = some x → ∃ u, inner[t]? = some u ∧ d.R et W base (fun k => (ok k ∧ k ≠ g) ∧ f k = t) u x := by
  obtain ⟨g, cap, hv, hb, hl, cells, hc⟩ := Kd.S_form hS hp
  injection hv with hv1 hv2 hv3
  subst hv1 hv2 hv3
  obtain ⟨f, h0, inner, ho, hr⟩ := hS
  have hlen : inner.length = rows.length := by have := hr.1; rw [List.length_zipIdx] at this; simpa [Kd.tag, Kd.slice] using this
  rw [List.length_zipIdx] at ho
  refine ⟨g, rfl, rfl, hb, h0 g rfl, f, inner, hlen, ho, ⟨cells, hc⟩, fun t x hx => ?_⟩
  have ht : t < rows.length := (List.getElem?_eq_some_iff.1 hx).1
  obtain ⟨v, hv, hR⟩ := hr.2 t (x, t) (Kd.zip_at hx)
  have hu : inner[t]? = some v := by
    have h2 : (inner.drop (t * 1)).take 1 = [v] := hv
    have hti : t < inner.length := by omega
    rw [Nat.mul_one, List.drop_eq_getElem_cons hti, List.take_succ_cons] at h2
    rw [List.getElem?_eq_getElem hti]
    injection h2 with h2 _
    rw [h2]
  exact ⟨v, hu, Kd.R_mono hR fun k hk => ⟨⟨hk.1.1, fun e_ => hk.1.2 (by rw [e_]; rfl)⟩, hk.2⟩⟩
theorem S_mk {g : Nat} (f : Nat → Nat) (inner : List Value) (hn : n = rows.length) (hok : ok g) (hlen : inner.length = rows.length) (ho : W.ownsRow base e 1 (.slice (some ⟨g, 0, none⟩) n cv) n inner)
    (h : ∀ t x, rows[t]? = some x → ∃ u, inner[t]? = some u ∧ d.R et W base (fun k => (ok k ∧ k ≠ g) ∧ f k = t) u x) : Kd.S (Kd.slice et d) e W base ok (.slice (some ⟨g, 0, none⟩) n cv) rows := by
  subst hn
  refine ⟨f, fun k hk => ?_, inner, by rw [List.length_zipIdx]; exact ho, by rw [List.length_zipIdx]; simpa [Kd.tag, Kd.slice] using hlen, fun t p hp => ?_⟩
  · have : g = k := by simpa [Value.ownBlock] using hk
    rw [← this]; exact hok
  · rw [List.getElem?_zipIdx] at hp
    obtain ⟨x, hx, rfl⟩ := Option.map_eq_some_iff.1 hp
    obtain ⟨u, hu, hR⟩ := h t x hx
    refine ⟨u, take_one hu, Kd.R_mono hR fun k hk => ⟨⟨hk.1.1, fun e_ => hk.1.2 ?_⟩, by simpa using hk.2⟩⟩
    have : g = k := by simpa [Value.ownBlock] using e_.symm
    exact this.symm
theorem own_cell {g t : Nat} {inner : List Value} {u : Value} (ho : W.ownsRow base e 1 (.slice (some ⟨g, 0, none⟩) n cv) n inner) (h : inner[t]? = some u) : W.cell? ⟨g, t, none⟩ = some u ∧ W.frozen? ⟨g, t, none⟩ = false := by
  have hc := ho.cells (g := g) rfl t u h
  rw [add_plain] at hc
  refine ⟨hc, ?_⟩
  rcases ho.2 with ⟨h', _⟩ | ⟨g', cap', cur, h', _, hh, _⟩
  · cases h'
  · injection h' with h' _ _; injection h' with h'; injection h' with h'; subst h'
    simp [World.frozen?, hh]
theorem heap_set_ne (W : World) (g t : Nat) (u : Value) {k : Nat} (h : k ≠ g) : (W.setCell ⟨g, t, none⟩ u).heap[k]? = W.heap[k]? := Below.heap_setCell W ⟨g, t, none⟩ u k h
theorem S_swap (hS : Kd.S (Kd.slice et d) e W base ok (.slice Av n cv) rows) (i j : Int) (h0 : 0 ≤ i) (h1 : i < rows.length) (h2 : 0 ≤ j) (h3 : j < rows.length) :
    ∃ (g : Nat) (Ai : Option Addr) (ni ci : Nat) (Aj : Option Addr) (nj cj : Nat) (x : Value), Av = some ⟨g, 0, none⟩ ∧ W.cell? ⟨g, i.toNat, none⟩ = some (.slice Ai ni ci) ∧ W.cell? ⟨g, j.toNat, none⟩ = some (.slice Aj nj cj) ∧
      W.frozen? ⟨g, i.toNat, none⟩ = false ∧ W.frozen? ⟨g, j.toNat, none⟩ = false ∧ (W.setCell ⟨g, i.toNat, none⟩ (.slice Aj nj cj)).cell? ⟨g, j.toNat, none⟩ = some x ∧
      Kd.S (Kd.slice et d) e ((W.setCell ⟨g, i.toNat, none⟩ (.slice Aj nj cj)).setCell ⟨g, j.toNat, none⟩ (.slice Ai ni ci)).drew base ok (.slice Av n cv) ((rows.set i.toNat (rows.getD j.toNat [])).set j.toNat (rows.getD i.toNat [])) ∧
      W.grownBy ((W.setCell ⟨g, i.toNat, none⟩ (.slice Aj nj cj)).setCell ⟨g, j.toNat, none⟩ (.slice Ai ni ci)).drew (some g) ∧ base ≤ g ∧ ∃ cells, W.heap[g]? = some (.cells cells e (0, 0)) := by
  obtain ⟨g, rfl, hn, hb, hokg, f, inner, hlen, ho, hcells, hel⟩ := S_open hS (by omega)
  have hi : i.toNat < rows.length := by omega
  have hj : j.toNat < rows.length := by omega
  obtain ⟨ui, hui, hRi⟩ := hel _ _ (getD_at [] hi)
  obtain ⟨uj, huj, hRj⟩ := hel _ _ (getD_at [] hj)
  obtain ⟨Ai, ci, rfl⟩ := Kd.R_slice hRi
  obtain ⟨Aj, cj, rfl⟩ := Kd.R_slice hRj
  obtain ⟨c1, f1⟩ := own_cell ho hui
  obtain ⟨c2, f2⟩ := own_cell ho huj
  generalize hvi : Value.slice Ai (rows.getD i.toNat []).length ci = vi at *
  generalize hvj : Value.slice Aj (rows.getD j.toNat []).length cj = vj at *
  obtain ⟨o1, g1⟩ := ho.stored i.toNat vj
  obtain ⟨o2, g2⟩ := o1.stored j.toNat vi
  have hjl : j.toNat < (inner.set i.toNat vj).length := by rw [List.length_set]; omega
  have hx : (W.setCell ⟨g, i.toNat, none⟩ vj).cell? ⟨g, j.toNat, none⟩ = some ((inner.set i.toNat vj).getD j.toNat vi) := (own_cell o1 (getD_at vi hjl)).1
  have hgr := World.grownBy.trans g1 g2
  have hgd : W.grownBy ((W.setCell ⟨g, i.toNat, none⟩ vj).setCell ⟨g, j.toNat, none⟩ vi).drew (some g) := ⟨hgr.os, hgr.tape, hgr.output, hgr.size, hgr.block⟩
  refine ⟨g, Ai, _, ci, Aj, _, cj, _, rfl, hvi ▸ c1, hvj ▸ c2, f1, f2, hvj ▸ hx, ?_, ?_, hb, hcells⟩
  · rw [hvi, hvj]
    have o3 : ((W.setCell ⟨g, i.toNat, none⟩ vj).setCell ⟨g, j.toNat, none⟩ vi).drew.ownsRow base e 1 (.slice (some ⟨g, 0, none⟩) n cv) n ((inner.set i.toNat vj).set j.toNat vi) := pw_own_below o2 (below_drew (Below.refl _ _))
    refine S_mk (fun k => if f k = i.toNat then j.toNat else if f k = j.toNat then i.toNat else f k) _ (by simpa using hn) hokg (by simpa using hlen) o3 fun t x hx => ?_
    have mv : ∀ {okp : Nat → Prop} {u : Value} {y : List α}, (∀ k, okp k → k ≠ g) → d.R et W base okp u y → d.R et ((W.setCell ⟨g, i.toNat, none⟩ vj).setCell ⟨g, j.toNat, none⟩ vi).drew base okp u y := fun hne hR =>
      Kd.R_move hR fun k hk => by
        show ((W.setCell ⟨g, i.toNat, none⟩ vj).setCell ⟨g, j.toNat, none⟩ vi).heap[k]? = _
        rw [heap_set_ne _ _ _ _ (hne k hk), heap_set_ne _ _ _ _ (hne k hk)]
    by_cases ej : t = j.toNat
    · subst ej
      have hxe : x = rows.getD i.toNat [] := by
        have : ((rows.set i.toNat (rows.getD j.toNat [])).set j.toNat (rows.getD i.toNat []))[j.toNat]? = some (rows.getD i.toNat []) := by rw [List.getElem?_set_self (by simpa using hj)]
        rw [this] at hx; exact (Option.some.inj hx).symm
      refine ⟨vi, by rw [List.getElem?_set_self (by simpa using (by omega : j.toNat < inner.length))], ?_⟩
      rw [hxe]
      exact Kd.R_mono (mv (fun k hk => hk.1.2) hRi) fun k hk => ⟨hk.1, by rw [if_pos hk.2]⟩
    · by_cases ei : t = i.toNat
      · subst ei
        have hxe : x = rows.getD j.toNat [] := by
          have : ((rows.set i.toNat (rows.getD j.toNat [])).set j.toNat (rows.getD i.toNat []))[i.toNat]? = some (rows.getD j.toNat []) := by rw [List.getElem?_set_ne (fun e_ => ej e_.symm), List.getElem?_set_self hi]
          rw [this] at hx; exact (Option.some.inj hx).symm
        refine ⟨vj, by rw [List.getElem?_set_ne (fun e_ => ej e_.symm), List.getElem?_set_self (by omega)], ?_⟩
        rw [hxe]
        exact Kd.R_mono (mv (fun k hk => hk.1.2) hRj) fun k hk => ⟨hk.1, by rw [if_neg (by rw [hk.2]; exact fun e_ => ej e_.symm), if_pos hk.2]⟩
      · have hx' : rows[t]? = some x := by rwa [List.getElem?_set_ne (fun e_ => ej e_.symm), List.getElem?_set_ne (fun e_ => ei e_.symm)] at hx
        obtain ⟨u, hu, hR⟩ := hel t x hx'
        refine ⟨u, by rw [List.getElem?_set_ne (fun e_ => ej e_.symm), List.getElem?_set_ne (fun e_ => ei e_.symm)]; exact hu, ?_⟩
        exact Kd.R_mono (mv (fun k hk => hk.1.2) hR) fun k hk => ⟨hk.1, by rw [if_neg (by rw [hk.2]; exact ei), if_neg (by rw [hk.2]; exact ej)]; exact hk.2⟩
  · rw [hvi, hvj]; exact hgd
end
def copied (a b : List Int) : List Int := a.take b.length ++ b.drop a.length
theorem copied_length (a b : List Int) : (copied a b).length = b.length := by simp [copied]; omega
theorem R_copy {P : Program} {W : World} {base : Nat} {ok : Nat → Prop} {u : Value} {a b : List Int} {Am : Option Addr} (cm : Nat) (hR : (Kd.int .u8).R 5 W base ok u b) (hC : (Kd.int .u8).C W Am a.length a) {T ty : TypeId} (hu : P.underlying T = some (.slice 5)) (hsz : (P.info? 5).map (·.size) = some 1) :
    ∃ Ad cd vc W2, u = .slice Ad b.length cd ∧ (Builtin.copy_ #[T, T] ty #[.slice Ad b.length cd, .slice Am a.length cm]).run P W = .ok vc W2 ∧ (Kd.int .u8).R 5 W2 base ok u (copied a b) ∧ W.grownBy W2 u.ownBlock := by
  obtain ⟨Ad, cd, rfl⟩ := Kd.R_slice hR
  by_cases h0 : Nat.min a.length b.length = 0
  · refine ⟨Ad, cd, _, W, rfl, run_copy_none (P := P) W T T ty 5 Ad Am b.length cd a.length cm hu hsz h0, ?_, World.grownBy.refl _ _⟩
    have : copied a b = b := by
      unfold copied
      rcases Nat.min_eq_zero_iff.1 h0 with h | h
      · have : a = [] := List.eq_nil_of_length_eq_zero h
        subst this; simp
      · have : b = [] := List.eq_nil_of_length_eq_zero h
        subst this; simp
    rw [this]; exact hR
  · have ha : 0 < a.length := by have := Nat.min_le_left a.length b.length; have : Nat.min a.length b.length ≤ a.length := this; omega
    have hb : 0 < b.length := by have : Nat.min a.length b.length ≤ b.length := Nat.min_le_right a.length b.length; omega
    have ho := Kd.own_of_R hR
    have hok := hR.1
    rcases ho.2 with ⟨_, h⟩ | ⟨g, cap, cur, h, hbg, hh, hnc, hcm, hcs, htk⟩
    · omega
    injection h with h1 h2 h3
    subst h1 h3
    rw [Nat.mul_one] at hcs htk
    obtain ⟨adm, hA, hcell⟩ := hC.2.2 ha
    subst hA
    generalize hcsd : (a.take b.length).map (Value.int .u8) = cs
    have hcl : cs.length = Nat.min a.length b.length := by rw [← hcsd, List.length_map, List.length_take]; exact Nat.min_comm _ _
    have hsrc : ∀ j v, cs[j]? = some v → W.cell? (adm.add j) = some v := by
      intro j v hv
      rw [← hcsd, List.getElem?_map] at hv
      obtain ⟨x, hx, rfl⟩ := Option.map_eq_some_iff.1 hv
      have hx' : a[j]? = some x := by
        rw [List.getElem?_take] at hx
        split at hx
        · exact hx
        · cases hx
      obtain ⟨c, _, hc, hcc⟩ := hcell j x hx'
      have := hcc 0 (Value.int .u8 x) (by rw [show c = [Value.int .u8 x] from hc]; rfl)
      rwa [show (Kd.int .u8).sz = 1 from rfl, Nat.mul_one, Nat.add_zero] at this
    have hrun := run_copy_row (P := P) W T T ty 5 g 0 b.length cd adm a.length cm cur 5 cs hu hsz hh hcl hsrc (by rw [hcl, hcs]; have : Nat.min a.length b.length ≤ b.length := Nat.min_le_right _ _; omega) (by intro v hv; rw [← hcsd] at hv; obtain ⟨x, _, rfl⟩ := List.mem_map.1 hv; rfl)
    refine ⟨_, _, _, _, rfl, hrun, ?_, ?_⟩
    · refine Kd.R_of_own (enc := Value.int .u8) (h1 := fun _ => rfl) ?_ hok
      refine ⟨by simp [encs, copied_length], .inr ⟨g, cd, _, by rw [copied_length], hbg, setRow_heap W g _ _ 5 _ hh, by rw [copied_length]; exact hnc, hcm, ?_, ?_⟩⟩
      · have : cs.length ≤ cd := by rw [hcl]; have : Nat.min a.length b.length ≤ b.length := Nat.min_le_right _ _; omega
        simp; omega
      · rw [copied_length, Nat.mul_one]
        have e1 : cur.toList = (b.map (Value.int .u8)) ++ cur.toList.drop b.length := by rw [← show encs (Value.int .u8) b = b.map (Value.int .u8) from rfl, ← htk]; simp
        generalize cur.toList.drop b.length = tl at e1
        rw [e1, ← hcsd]
        show List.take b.length (List.take 0 (List.map (Value.int .u8) b ++ tl) ++ List.map (Value.int .u8) (List.take b.length a) ++ List.drop (0 + (List.map (Value.int .u8) (List.take b.length a)).length) (List.map (Value.int .u8) b ++ tl)) = (copied a b).map (Value.int .u8)
        simp only [List.take_zero, List.nil_append, Nat.zero_add, List.length_map, List.length_take]
        by_cases hab : a.length ≤ b.length
        · rw [List.take_of_length_le hab, show min b.length a.length = a.length by omega, copied, List.take_of_length_le hab, List.drop_append_of_le_length (by simpa using hab), List.map_append, ← List.append_assoc, List.take_append_of_le_length (by simp; omega), List.take_of_length_le (by simp; omega), List.map_drop]
        · rw [show min b.length a.length = b.length by omega, copied, List.drop_of_length_le (show b.length ≤ a.length by omega), List.append_nil, List.take_append_of_le_length (by simp; omega), List.take_of_length_le (by simp; omega)]
    · exact ⟨rfl, rfl, rfl, by simp [World.setRow], fun k _ hk => setRow_other W g k _ (fun e_ => hk (by rw [e_]; rfl))⟩
def copyAt (rows m : List (List Int)) (i : Int) : List (List Int) := rows.set i.toNat (copied (m.getD i.toNat []) (rows.getD i.toNat []))
theorem S_copy {P : Program} {W : World} {base n cv n0 : Nat} {Av A0 : Option Addr} {rows m : List (List Int)} (hS : Kd.S (Kd.slice 5 (Kd.int .u8)) 43 W base (fun _ => True) (.slice Av n cv) rows) (hC : Kd.C (Kd.slice 5 (Kd.int .u8)) W A0 n0 m) {T ty : TypeId} (hu : P.underlying T = some (.slice 5)) (hsz : (P.info? 5).map (·.size) = some 1)
    (i : Int) (h0 : 0 ≤ i) (h1 : i < rows.length) (h2 : i < m.length) :
    ∃ (g : Nat) (adm : Addr) (Ad Am : Option Addr) (nd nm cd cm : Nat) (vc : Value) (W2 : World), Av = some ⟨g, 0, none⟩ ∧ A0 = some adm ∧ W.cell? ⟨g, i.toNat, none⟩ = some (.slice Ad nd cd) ∧ W.cell? (adm.add i.toNat) = some (.slice Am nm cm) ∧
      (Builtin.copy_ #[T, T] ty #[.slice Ad nd cd, .slice Am nm cm]).run P W.drew = .ok vc W2 ∧ Kd.S (Kd.slice 5 (Kd.int .u8)) 43 W2 base (fun _ => True) (.slice Av n cv) (copyAt rows m i) ∧ W.grownBy W2 (Value.slice Ad nd cd).ownBlock ∧
      (∀ k, (Value.slice Ad nd cd).ownBlock = some k → base ≤ k) ∧ (∀ k, (Value.slice Ad nd cd).ownBlock = some k → ∃ cells, W.heap[k]? = some (.cells cells 5 (0, 0))) ∧ base ≤ W.heap.size := by
  have hn : n = rows.length := (Kd.S_reads' hS).1
  obtain ⟨g, cap, hv, hb, hl, _⟩ := Kd.S_form hS (by omega)
  injection hv with hv1 hv2 hv3
  subst hv1 hv3
  obtain ⟨adm, c0, eA, _, hK, hcc0⟩ := Kd.C_get hC ([] : List Int) i h0 (by have := hC.1; omega)
  obtain ⟨Am, cm, rfl, _, hCm⟩ := hK
  have hcm : W.cell? (adm.add i.toNat) = some (.slice Am (m.getD i.toNat []).length cm) := by have := hcc0 0 _ rfl; rwa [show (Kd.slice 5 (Kd.int .u8)).sz = 1 from rfl, Nat.mul_one, Nat.add_zero] at this
  obtain ⟨oki, c, _, hM, hcc, hoki, hback⟩ := Kd.S_borrow hS ([] : List Int) i h0 (by omega)
  obtain ⟨u, rfl, hR⟩ := hM
  have hcd := hcc 0 _ rfl
  rw [show (Kd.slice 5 (Kd.int .u8)).sz = 1 from rfl, Nat.mul_one, Nat.add_zero, add_plain] at hcd
  obtain ⟨Ad, cd, vc, W2, rfl, hrun, hR2, hg⟩ := R_copy (P := P) (T := T) (ty := ty) cm (Kd.R_drew hR) (Kd.C_drew hCm) hu hsz
  have hgW : W.grownBy W2 (Value.slice Ad (rows.getD i.toNat []).length cd).ownBlock := ⟨hg.os, hg.tape, hg.output, hg.size, hg.block⟩
  refine ⟨g, adm, Ad, Am, _, _, cd, cm, vc, W2, rfl, eA, hcd, hcm, hrun, ?_, hgW, Kd.R_base hR, Kd.R_typed hR, by omega⟩
  exact hback hgW (fun k hk => hR.1 k hk) (Kd.M_row hR2)
theorem blk_set {W : World} {g1 g2 : Nat} {t1 t2 : TypeId} {c1 c2 : Array Value} (h1 : W.heap[g1]? = some (.cells c1 t1 (0, 0))) (h2 : W.heap[g2]? = some (.cells c2 t2 (0, 0))) (ht : t1 ≠ t2) (j : Nat) (u : Value) : (W.setCell ⟨g1, j, none⟩ u).heap[g2]? = some (.cells c2 t2 (0, 0)) := by
  rw [heap_set_ne W g1 j u (k := g2) (fun e => by subst e; rw [h1] at h2; injection h2 with h2; injection h2 with _ h2 _; exact ht h2)]
  exact h2
end Go.Proofs.YtijebgceopddmaaDoor.KdMore
end
section
set_option linter.unusedVariables false
set_option linter.unusedSimpArgs false
namespace Go.Proofs.YtijebgceopddmaaDoor.Pr
open Go.RowKit Go.Proofs.YtijebgceopddmaaDoorW.PrintWords Go.Proofs.YtijebgceopddmaaDoorW.PrintLast Go.Proofs.YtijebgceopddmaaDoorW.PrintMore
def swapL (rows : List (List Int)) (i j : Int) : Option (List (List Int)) :=
  if 0 ≤ i ∧ i < rows.length ∧ 0 ≤ j ∧ j < rows.length then some ((rows.set i.toNat (rows.getD j.toNat [])).set j.toNat (rows.getD i.toNat [])) else none
def copyL (rows m : List (List Int)) (i : Int) : Option (List (List Int)) :=
  if 0 ≤ i ∧ i < rows.length ∧ i < m.length then some (KdMore.copyAt rows m i) else none
set_option maxHeartbeats 4000000 in
set_option maxRecDepth 100000 in
theorem swap_walk {Q : Exit → Act → World → Prop} {W : World} (t0 t1 t2 t3 t5 t6 t7 t10 t11 t12 t13 t14 t15 t16 t17 t18 t19 t20 t21 t22 t23 t24 t25 t26 t27 t28 t29 t30 t31 t32 t33 t34 t35 t36 t37 t38 t39 t40 t41 t42 t43 t44 t45 t46 t47 t48 t49 t50 t51 t52 t53 t54 t55 t56 t57 t58 t59 t60 t61 t62 t63 t64 t65 t66 t67 t68 t69 t70 t71 t72 t73 t74 t75 t76 t77 t78 t79 t80 t81 t82 t83 t84 t85 t86 t87 t88 t89 t90 t91 t92 t93 t94 t95 t96 t97 t98 t99 t100 t101 t102 t103 t104 t105 t106 t107 t108 t109 t110 t111 t112 t113 t114 t115 t116 t117 t118 t119 t120 t121 t122 t123 t124 t125 t126 t127 t128 t129 t130 t131 t132 t133 t134 t135 t136 t137 t138 t139 t140 t141 t142 t143 t144 t145 t146 t147 t148 t149 t150 t151 t152 t153 t154 t155 t156 t157 t158 t159 t160 t161 t162 t163 t164 t165 t166 t167 t168 t169 t170 : Value) (ds : List Deferred) (hQ : ∀ c (a : Act) d v w, Q (.panic c) (a.put (some d) v) w → Q (.panic c) a w) (Av : Option Addr) (n : Nat) (cv : Nat) (i j : Int) (g : Nat) (Ai Aj : Option Addr) (ni nj ci cj : Nat) (x : Value) (hA : Av = some ⟨g, 0, none⟩)
    (h0 : 0 ≤ i) (h1 : i < n) (h2 : 0 ≤ j) (h3 : j < n) (hci : W.cell? ⟨g, i.toNat, none⟩ = some (.slice Ai ni ci)) (hcj : W.cell? ⟨g, j.toNat, none⟩ = some (.slice Aj nj cj))
    (hfi : W.frozen? ⟨g, i.toNat, none⟩ = false) (hfj : W.frozen? ⟨g, j.toNat, none⟩ = false) (hx : (W.setCell ⟨g, i.toNat, none⟩ (.slice Aj nj cj)).cell? ⟨g, j.toNat, none⟩ = some x)
    (h : ∀ u65 u66 u67 u68 u69 u70 u71 u72 u73 u74 u75 u76 u77 u78, Q .normal { tmps := #[t0, t1, t2, t3, .slice Av n cv, t5, t6, t7, .int .i64 i, .int .i64 j, t10, t11, t12, t13, t14, t15, t16, t17, t18, t19, t20, t21, t22, t23, t24, t25, t26, t27, t28, t29, t30, t31, t32, t33, t34, t35, t36, t37, t38, t39, t40, t41, t42, t43, t44, t45, t46, t47, t48, t49, t50, t51, t52, t53, t54, t55, t56, t57, t58, t59, t60, t61, t62, t63, t64, u65, u66, u67, u68, u69, u70, u71, u72, u73, u74, u75, u76, u77, u78, t79, t80, t81, t82, t83, t84, t85, t86, t87, t88, t89, t90, t91, t92, t93, t94, t95, t96, t97, t98, t99, t100, t101, t102, t103, t104, t105, t106, t107, t108, t109, t110, t111, t112, t113, t114, t115, t116, t117, t118, t119, t120, t121, t122, t123, t124, t125, t126, t127, t128, t129, t130, t131, t132, t133, t134, t135, t136, t137, t138, t139, t140, t141, t142, t143, t144, t145, t146, t147, t148, t149, t150, t151, t152, t153, t154, t155, t156, t157, t158, t159, t160, t161, t162, t163, t164, t165, t166, t167, t168, t169, t170], defers := ds } ((W.setCell ⟨g, i.toNat, none⟩ (.slice Aj nj cj)).setCell ⟨g, j.toNat, none⟩ (.slice Ai ni ci)).drew) :
    (Code.region 17 #[{ dst := some 65, op := Go.Op.move (Go.Operand.tmp 4), type := 22, pos := "matrix.go:88", after := #[], guard := none }, { dst := some 66, op := Go.Op.move (Go.Operand.tmp 8), type := 3, pos := "matrix.go:88", after := #[], guard := none }, { dst := some 67, op := Go.Op.move (Go.Operand.tmp 4), type := 22, pos := "matrix.go:88", after := #[{ on := 13, ground := Go.Ground.gcOnly Go.Departure.lateStores }], guard := none }, { dst := some 68, op := Go.Op.move (Go.Operand.tmp 9), type := 3, pos := "matrix.go:88", after := #[{ on := 13, ground := Go.Ground.gcOnly Go.Departure.lateStores }], guard := none }, { dst := some 69, op := Go.Op.move (Go.Operand.tmp 4), type := 22, pos := "matrix.go:88", after := #[], guard := none }, { dst := some 70, op := Go.Op.move (Go.Operand.tmp 9), type := 3, pos := "matrix.go:88", after := #[], guard := none }, { dst := some 71, op := Go.Op.indexAddr 22 (Go.Operand.tmp 69) (Go.Operand.tmp 70), type := 0, pos := "matrix.go:88", after := #[{ on := 4, ground := Go.Ground.data }, { on := 5, ground := Go.Ground.data }], guard := none }, { dst := some 72, op := Go.Op.load 43 (Go.Operand.tmp 71), type := 43, pos := "matrix.go:88", after := #[{ on := 6, ground := Go.Ground.data }], guard := none }, { dst := some 73, op := Go.Op.move (Go.Operand.tmp 4), type := 22, pos := "matrix.go:88", after := #[], guard := none }, { dst := some 74, op := Go.Op.move (Go.Operand.tmp 8), type := 3, pos := "matrix.go:88", after := #[], guard := none }, { dst := some 75, op := Go.Op.indexAddr 22 (Go.Operand.tmp 73) (Go.Operand.tmp 74), type := 0, pos := "matrix.go:88", after := #[{ on := 8, ground := Go.Ground.data }, { on := 9, ground := Go.Ground.data }], guard := none }, { dst := some 76, op := Go.Op.load 43 (Go.Operand.tmp 75), type := 43, pos := "matrix.go:88", after := #[{ on := 10, ground := Go.Ground.data }], guard := none }, { dst := some 77, op := Go.Op.indexAddr 22 (Go.Operand.tmp 65) (Go.Operand.tmp 66), type := 0, pos := "matrix.go:88", after := #[{ on := 0, ground := Go.Ground.data }, { on := 1, ground := Go.Ground.data }, { on := 0, ground := Go.Ground.phase }, { on := 1, ground := Go.Ground.phase }, { on := 2, ground := Go.Ground.textOnly Go.Departure.lateStores }, { on := 3, ground := Go.Ground.textOnly Go.Departure.lateStores }, { on := 4, ground := Go.Ground.phase }, { on := 5, ground := Go.Ground.phase }, { on := 6, ground := Go.Ground.phase }, { on := 7, ground := Go.Ground.phase }, { on := 8, ground := Go.Ground.textOnly Go.Departure.lateStores }, { on := 9, ground := Go.Ground.textOnly Go.Departure.lateStores }, { on := 10, ground := Go.Ground.textOnly Go.Departure.lateStoresUnsure }, { on := 11, ground := Go.Ground.phase }], guard := none }, { dst := none, op := Go.Op.store 43 (Go.Operand.tmp 77) (Go.Operand.tmp 72), type := 0, pos := "matrix.go:88", after := #[{ on := 12, ground := Go.Ground.data }, { on := 7, ground := Go.Ground.data }, { on := 0, ground := Go.Ground.phase }, { on := 1, ground := Go.Ground.phase }, { on := 2, ground := Go.Ground.textOnly Go.Departure.lateStores }, { on := 3, ground := Go.Ground.textOnly Go.Departure.lateStores }, { on := 4, ground := Go.Ground.phase }, { on := 5, ground := Go.Ground.phase }, { on := 6, ground := Go.Ground.phase }, { on := 7, ground := Go.Ground.phase }, { on := 8, ground := Go.Ground.textOnly Go.Departure.lateStores }, { on := 9, ground := Go.Ground.textOnly Go.Departure.lateStores }, { on := 10, ground := Go.Ground.textOnly Go.Departure.lateStoresUnsure }, { on := 11, ground := Go.Ground.phase }], guard := none }, { dst := some 78, op := Go.Op.indexAddr 22 (Go.Operand.tmp 67) (Go.Operand.tmp 68), type := 0, pos := "matrix.go:88", after := #[{ on := 2, ground := Go.Ground.data }, { on := 3, ground := Go.Ground.data }, { on := 0, ground := Go.Ground.phase }, { on := 1, ground := Go.Ground.phase }, { on := 2, ground := Go.Ground.phase }, { on := 3, ground := Go.Ground.phase }, { on := 4, ground := Go.Ground.phase }, { on := 5, ground := Go.Ground.phase }, { on := 6, ground := Go.Ground.phase }, { on := 7, ground := Go.Ground.phase }, { on := 8, ground := Go.Ground.phase }, { on := 9, ground := Go.Ground.phase }, { on := 10, ground := Go.Ground.phase }, { on := 11, ground := Go.Ground.phase }, { on := 12, ground := Go.Ground.phase }, { on := 13, ground := Go.Ground.phase }], guard := none }, { dst := none, op := Go.Op.store 43 (Go.Operand.tmp 78) (Go.Operand.tmp 76), type := 0, pos := "matrix.go:88", after := #[{ on := 14, ground := Go.Ground.data }, { on := 11, ground := Go.Ground.data }, { on := 13, ground := Go.Ground.chain }, { on := 0, ground := Go.Ground.phase }, { on := 1, ground := Go.Ground.phase }, { on := 2, ground := Go.Ground.phase }, { on := 3, ground := Go.Ground.phase }, { on := 4, ground := Go.Ground.phase }, { on := 5, ground := Go.Ground.phase }, { on := 6, ground := Go.Ground.phase }, { on := 7, ground := Go.Ground.phase }, { on := 8, ground := Go.Ground.phase }, { on := 9, ground := Go.Ground.phase }, { on := 10, ground := Go.Ground.phase }, { on := 11, ground := Go.Ground.phase }, { on := 12, ground := Go.Ground.phase }, { on := 13, ground := Go.Ground.phase }], guard := none }] true).wp Tryd.prog Q { tmps := #[t0, t1, t2, t3, .slice Av n cv, t5, t6, t7, .int .i64 i, .int .i64 j, t10, t11, t12, t13, t14, t15, t16, t17, t18, t19, t20, t21, t22, t23, t24, t25, t26, t27, t28, t29, t30, t31, t32, t33, t34, t35, t36, t37, t38, t39, t40, t41, t42, t43, t44, t45, t46, t47, t48, t49, t50, t51, t52, t53, t54, t55, t56, t57, t58, t59, t60, t61, t62, t63, t64, t65, t66, t67, t68, t69, t70, t71, t72, t73, t74, t75, t76, t77, t78, t79, t80, t81, t82, t83, t84, t85, t86, t87, t88, t89, t90, t91, t92, t93, t94, t95, t96, t97, t98, t99, t100, t101, t102, t103, t104, t105, t106, t107, t108, t109, t110, t111, t112, t113, t114, t115, t116, t117, t118, t119, t120, t121, t122, t123, t124, t125, t126, t127, t128, t129, t130, t131, t132, t133, t134, t135, t136, t137, t138, t139, t140, t141, t142, t143, t144, t145, t146, t147, t148, t149, t150, t151, t152, t153, t154, t155, t156, t157, t158, t159, t160, t161, t162, t163, t164, t165, t166, t167, t168, t169, t170], defers := ds } W := by
  subst hA
  refine start_ (n := 16) (S := fun w' => w'.cell? ⟨g, i.toNat, none⟩ = some (.slice Ai ni ci) ∧ w'.cell? ⟨g, j.toNat, none⟩ = some (.slice Aj nj cj)) (ds := [13, 15]) #[false, false, false, false, false, false, false, false, false, false, false, false, false, false, false, false] (by kernel_rfl) rfl rfl ⟨hci, hcj⟩ (fun hHeld => ?_)
  refine pure_ (i := 0) (N := some 65) (v := ?_) (a' := ?_) #[true, false, false, false, false, false, false, false, false, false, false, false, false, false, false, false] rfl rfl (by kernel_rfl) (fun c a w h => hQ c a _ _ w h) (Or.inl ⟨by rfl, ?_⟩) ?_ ?_
  rotate_left
  · intro w'
    go_simp
    with_reducible rfl
  rotate_left
  · simp only [Act.put, List.setIfInBounds_toArray, List.set_cons_zero, List.set_cons_succ, i64_w, i32_w]
    rfl
  refine pure_ (i := 1) (N := some 66) (v := ?_) (a' := ?_) #[true, true, false, false, false, false, false, false, false, false, false, false, false, false, false, false] rfl rfl (by kernel_rfl) (fun c a w h => hQ c a _ _ w h) (Or.inl ⟨by rfl, ?_⟩) ?_ ?_
  rotate_left
  · intro w'
    go_simp
    with_reducible rfl
  rotate_left
  · simp only [Act.put, List.setIfInBounds_toArray, List.set_cons_zero, List.set_cons_succ, i64_w, i32_w]
    rfl
  refine pure_ (i := 2) (N := some 67) (v := ?_) (a' := ?_) #[true, true, true, false, false, false, false, false, false, false, false, false, false, false, false, false] rfl rfl (by kernel_rfl) (fun c a w h => hQ c a _ _ w h) (Or.inl ⟨by rfl, ?_⟩) ?_ ?_
  rotate_left
  · intro w'
    go_simp
    with_reducible rfl
  rotate_left
  · simp only [Act.put, List.setIfInBounds_toArray, List.set_cons_zero, List.set_cons_succ, i64_w, i32_w]
    rfl
  refine pure_ (i := 3) (N := some 68) (v := ?_) (a' := ?_) #[true, true, true, true, false, false, false, false, false, false, false, false, false, false, false, false] rfl rfl (by kernel_rfl) (fun c a w h => hQ c a _ _ w h) (Or.inl ⟨by rfl, ?_⟩) ?_ ?_
  rotate_left
  · intro w'
    go_simp
    with_reducible rfl
  rotate_left
  · simp only [Act.put, List.setIfInBounds_toArray, List.set_cons_zero, List.set_cons_succ, i64_w, i32_w]
    rfl
  refine pure_ (i := 4) (N := some 69) (v := ?_) (a' := ?_) #[true, true, true, true, true, false, false, false, false, false, false, false, false, false, false, false] rfl rfl (by kernel_rfl) (fun c a w h => hQ c a _ _ w h) (Or.inl ⟨by rfl, ?_⟩) ?_ ?_
  rotate_left
  · intro w'
    go_simp
    with_reducible rfl
  rotate_left
  · simp only [Act.put, List.setIfInBounds_toArray, List.set_cons_zero, List.set_cons_succ, i64_w, i32_w]
    rfl
  refine pure_ (i := 5) (N := some 70) (v := ?_) (a' := ?_) #[true, true, true, true, true, true, false, false, false, false, false, false, false, false, false, false] rfl rfl (by kernel_rfl) (fun c a w h => hQ c a _ _ w h) (Or.inl ⟨by rfl, ?_⟩) ?_ ?_
  rotate_left
  · intro w'
    go_simp
    with_reducible rfl
  rotate_left
  · simp only [Act.put, List.setIfInBounds_toArray, List.set_cons_zero, List.set_cons_succ, i64_w, i32_w]
    rfl
  refine pure_ (i := 6) (N := some 71) (v := ?_) (a' := ?_) #[true, true, true, true, true, true, true, false, false, false, false, false, false, false, false, false] rfl rfl (by kernel_rfl) (fun c a w h => hQ c a _ _ w h) (Or.inl ⟨by rfl, ?_⟩) ?_ ?_
  rotate_left
  · intro w'
    go_simp
    with_reducible rfl
  rotate_left
  · simp only [Act.put, List.setIfInBounds_toArray, List.set_cons_zero, List.set_cons_succ, i64_w, i32_w]
    rfl
  refine pure_ (i := 8) (N := some 73) (v := ?_) (a' := ?_) #[true, true, true, true, true, true, true, false, true, false, false, false, false, false, false, false] rfl rfl (by kernel_rfl) (fun c a w h => hQ c a _ _ w h) (Or.inl ⟨by rfl, ?_⟩) ?_ ?_
  rotate_left
  · intro w'
    go_simp
    with_reducible rfl
  rotate_left
  · simp only [Act.put, List.setIfInBounds_toArray, List.set_cons_zero, List.set_cons_succ, i64_w, i32_w]
    rfl
  refine pure_ (i := 9) (N := some 74) (v := ?_) (a' := ?_) #[true, true, true, true, true, true, true, false, true, true, false, false, false, false, false, false] rfl rfl (by kernel_rfl) (fun c a w h => hQ c a _ _ w h) (Or.inl ⟨by rfl, ?_⟩) ?_ ?_
  rotate_left
  · intro w'
    go_simp
    with_reducible rfl
  rotate_left
  · simp only [Act.put, List.setIfInBounds_toArray, List.set_cons_zero, List.set_cons_succ, i64_w, i32_w]
    rfl
  refine pure_ (i := 10) (N := some 75) (v := ?_) (a' := ?_) #[true, true, true, true, true, true, true, false, true, true, true, false, false, false, false, false] rfl rfl (by kernel_rfl) (fun c a w h => hQ c a _ _ w h) (Or.inl ⟨by rfl, ?_⟩) ?_ ?_
  rotate_left
  · intro w'
    go_simp
    with_reducible rfl
  rotate_left
  · simp only [Act.put, List.setIfInBounds_toArray, List.set_cons_zero, List.set_cons_succ, i64_w, i32_w]
    rfl
  refine take_ (i := 7) (N := some 72) (v := ?_) (a' := ?_) #[true, true, true, true, true, true, true, true, true, true, true, false, false, false, false, false] rfl rfl (by kernel_rfl) (fun c a w h => hQ c a _ _ w h) (Or.inl ⟨by rfl, ?_⟩) hHeld ?_ ?_
  rotate_left
  · rintro w' ⟨s0, s1⟩
    go_simp
    with_reducible rfl
  rotate_left
  · simp only [Act.put, List.setIfInBounds_toArray, List.set_cons_zero, List.set_cons_succ, i64_w, i32_w]
    rfl
  refine take_ (i := 11) (N := some 76) (v := ?_) (a' := ?_) #[true, true, true, true, true, true, true, true, true, true, true, true, false, false, false, false] rfl rfl (by kernel_rfl) (fun c a w h => hQ c a _ _ w h) (Or.inl ⟨by rfl, ?_⟩) hHeld ?_ ?_
  rotate_left
  · rintro w' ⟨s0, s1⟩
    go_simp
    with_reducible rfl
  rotate_left
  · simp only [Act.put, List.setIfInBounds_toArray, List.set_cons_zero, List.set_cons_succ, i64_w, i32_w]
    rfl
  refine pure_ (i := 12) (N := some 77) (v := ?_) (a' := ?_) #[true, true, true, true, true, true, true, true, true, true, true, true, true, false, false, false] rfl rfl (by kernel_rfl) (fun c a w h => hQ c a _ _ w h) (Or.inl ⟨by rfl, ?_⟩) ?_ ?_
  rotate_left
  · intro w'
    go_simp
    with_reducible rfl
  rotate_left
  · simp only [Act.put, List.setIfInBounds_toArray, List.set_cons_zero, List.set_cons_succ, i64_w, i32_w]
    rfl
  refine last_ (i := 13) (N := none) #[true, true, true, true, true, true, true, true, true, true, true, true, true, true, false, false] rfl rfl (by kernel_rfl) (by decide) (fun K hK => ?_)
  refine skip_ (w1 := ?_) (by rfl) rfl ?_ ?_
  rotate_left
  · go_simp
    rfl
  refine hK.out _ _ ?_
  clear hK K
  refine pure_ (i := 14) (N := some 78) (v := ?_) (a' := ?_) #[true, true, true, true, true, true, true, true, true, true, true, true, true, true, true, false] rfl rfl (by kernel_rfl) (fun c a w h => hQ c a _ _ w h) (Or.inl ⟨by rfl, ?_⟩) ?_ ?_
  rotate_left
  · intro w'
    go_simp
    with_reducible rfl
  rotate_left
  · simp only [Act.put, List.setIfInBounds_toArray, List.set_cons_zero, List.set_cons_succ, i64_w, i32_w]
    rfl
  refine last_ (i := 15) (N := none) #[true, true, true, true, true, true, true, true, true, true, true, true, true, true, true, true] rfl rfl (by kernel_rfl) (by decide) (fun K hK => ?_)
  refine skip_ (w1 := ?_) (by rfl) rfl ?_ ?_
  rotate_left
  · go_simp
    rfl
  refine hK.out _ _ ?_
  clear hK K
  refine done_ (by kernel_rfl) ?_
  exact h ..
theorem copy_step {P : Program} {ops : Array Oper} {oi : Oper} {N : Option Tmp} {a : Act} {w w1 : World} {v : Value} {K : Act → World → Prop} {Q : Exit → Act → World → Prop} {d s : Operand} {dT sT : TypeId} {vd vs : Value} (hw : Region.wanted oi (yielded ops a.tmps) = true) (hN : oi.dst = N)
    (ho : oi.op = .call { callee := .builtin .copy, args := #[d, s], argTypes := #[dT, sT] }) (hd : a.eval d = vd) (hs : a.eval s = vs) (hrun : (Builtin.copy_ #[dT, sT] oi.type #[vd, vs]).run P w = .ok v w1) (h : K (a.put N v) w1) :
    if Region.wanted oi (yielded ops a.tmps) = true then Oper.wp P oi a w K Q else K (a.put N undef) w := by
  refine value_ hw hN ?_ h
  simp [execOp, ho, resolve, invoke, builtin, hd, hs, hrun, Result.andThen]
set_option maxHeartbeats 4000000 in
set_option maxRecDepth 100000 in
theorem copy_walk {Q : Exit → Act → World → Prop} {W W2 : World} (t1 t2 t3 t6 t7 t8 t9 t10 t11 t12 t13 t14 t15 t16 t17 t18 t19 t20 t21 t22 t23 t24 t25 t26 t27 t28 t29 t30 t31 t32 t33 t34 t35 t36 t37 t38 t39 t40 t41 t42 t43 t44 t45 t46 t47 t48 t49 t50 t51 t52 t53 t54 t55 t56 t57 t58 t59 t60 t61 t62 t63 t64 t65 t66 t67 t68 t69 t70 t71 t72 t73 t74 t75 t76 t77 t78 t79 t80 t81 t82 t83 t84 t85 t86 t87 t88 t89 t90 t91 t92 t93 t94 t95 t96 t97 t98 t99 t100 t101 t102 t103 t104 t105 t106 t107 t108 t109 t110 t111 t112 t113 t114 t115 t116 t117 t118 t119 t120 t121 t122 t123 t124 t125 t126 t127 t128 t129 t130 t131 t132 t133 t134 t135 t136 t137 t138 t139 t140 t141 t142 t143 t144 t145 t146 t147 t148 t149 t150 t151 t152 t153 t154 t155 t156 t157 t158 t159 t160 t161 t162 t163 t164 t165 t166 t167 t168 t169 t170 : Value) (ds : List Deferred) (hQ : ∀ c (a : Act) d v w, Q (.panic c) (a.put (some d) v) w → Q (.panic c) a w) (A0 Av : Option Addr) (n0 n : Nat) (c0 cv : Nat) (i : Int) (g : Nat) (adm : Addr) (Ad Am : Option Addr) (nd nm cd cm : Nat) (vc : Value) (hA : Av = some ⟨g, 0, none⟩) (hA0 : A0 = some adm)
    (h0 : 0 ≤ i) (h1 : i < n) (h3 : i < n0) (hci : W.cell? ⟨g, i.toNat, none⟩ = some (.slice Ad nd cd)) (hcm : W.cell? (adm.add i.toNat) = some (.slice Am nm cm))
    (hrun : (Builtin.copy_ #[43, 43] 3 #[.slice Ad nd cd, .slice Am nm cm]).run Tryd.prog W.drew = .ok vc W2)
    (h : ∀ u33 u34 u35 u36 u37 u38 u39 u40 u41, Q .normal { tmps := #[.slice A0 n0 c0, t1, t2, t3, .slice Av n cv, .int .i64 i, t6, t7, t8, t9, t10, t11, t12, t13, t14, t15, t16, t17, t18, t19, t20, t21, t22, t23, t24, t25, t26, t27, t28, t29, t30, t31, t32, u33, u34, u35, u36, u37, u38, u39, u40, u41, t42, t43, t44, t45, t46, t47, t48, t49, t50, t51, t52, t53, t54, t55, t56, t57, t58, t59, t60, t61, t62, t63, t64, t65, t66, t67, t68, t69, t70, t71, t72, t73, t74, t75, t76, t77, t78, t79, t80, t81, t82, t83, t84, t85, t86, t87, t88, t89, t90, t91, t92, t93, t94, t95, t96, t97, t98, t99, t100, t101, t102, t103, t104, t105, t106, t107, t108, t109, t110, t111, t112, t113, t114, t115, t116, t117, t118, t119, t120, t121, t122, t123, t124, t125, t126, t127, t128, t129, t130, t131, t132, t133, t134, t135, t136, t137, t138, t139, t140, t141, t142, t143, t144, t145, t146, t147, t148, t149, t150, t151, t152, t153, t154, t155, t156, t157, t158, t159, t160, t161, t162, t163, t164, t165, t166, t167, t168, t169, t170], defers := ds } W2) :
    (Code.region 6 #[{ dst := some 33, op := Go.Op.move (Go.Operand.tmp 4), type := 22, pos := "matrix.go:78", after := #[], guard := none }, { dst := some 34, op := Go.Op.move (Go.Operand.tmp 5), type := 3, pos := "matrix.go:78", after := #[], guard := none }, { dst := some 35, op := Go.Op.indexAddr 22 (Go.Operand.tmp 33) (Go.Operand.tmp 34), type := 0, pos := "matrix.go:78", after := #[{ on := 0, ground := Go.Ground.data }, { on := 1, ground := Go.Ground.data }], guard := none }, { dst := some 36, op := Go.Op.load 43 (Go.Operand.tmp 35), type := 43, pos := "matrix.go:78", after := #[{ on := 2, ground := Go.Ground.data }], guard := none }, { dst := some 37, op := Go.Op.move (Go.Operand.tmp 0), type := 22, pos := "matrix.go:78", after := #[], guard := none }, { dst := some 38, op := Go.Op.move (Go.Operand.tmp 5), type := 3, pos := "matrix.go:78", after := #[], guard := none }, { dst := some 39, op := Go.Op.indexAddr 22 (Go.Operand.tmp 37) (Go.Operand.tmp 38), type := 0, pos := "matrix.go:78", after := #[{ on := 4, ground := Go.Ground.data }, { on := 5, ground := Go.Ground.data }], guard := none }, { dst := some 40, op := Go.Op.load 43 (Go.Operand.tmp 39), type := 43, pos := "matrix.go:78", after := #[{ on := 6, ground := Go.Ground.data }], guard := none }, { dst := some 41, op := Go.Op.call { callee := Go.Callee.builtin Go.Builtin.copy, args := #[Go.Operand.tmp 36, Go.Operand.tmp 40], argTypes := #[43, 43] }, type := 3, pos := "matrix.go:78", after := #[{ on := 3, ground := Go.Ground.data }, { on := 7, ground := Go.Ground.data }], guard := none }] true).wp Tryd.prog Q { tmps := #[.slice A0 n0 c0, t1, t2, t3, .slice Av n cv, .int .i64 i, t6, t7, t8, t9, t10, t11, t12, t13, t14, t15, t16, t17, t18, t19, t20, t21, t22, t23, t24, t25, t26, t27, t28, t29, t30, t31, t32, t33, t34, t35, t36, t37, t38, t39, t40, t41, t42, t43, t44, t45, t46, t47, t48, t49, t50, t51, t52, t53, t54, t55, t56, t57, t58, t59, t60, t61, t62, t63, t64, t65, t66, t67, t68, t69, t70, t71, t72, t73, t74, t75, t76, t77, t78, t79, t80, t81, t82, t83, t84, t85, t86, t87, t88, t89, t90, t91, t92, t93, t94, t95, t96, t97, t98, t99, t100, t101, t102, t103, t104, t105, t106, t107, t108, t109, t110, t111, t112, t113, t114, t115, t116, t117, t118, t119, t120, t121, t122, t123, t124, t125, t126, t127, t128, t129, t130, t131, t132, t133, t134, t135, t136, t137, t138, t139, t140, t141, t142, t143, t144, t145, t146, t147, t148, t149, t150, t151, t152, t153, t154, t155, t156, t157, t158, t159, t160, t161, t162, t163, t164, t165, t166, t167, t168, t169, t170], defers := ds } W := by
  subst hA hA0
  refine start_ (n := 9) (S := fun w' => w'.cell? ⟨g, i.toNat, none⟩ = some (.slice Ad nd cd) ∧ w'.cell? (adm.add i.toNat) = some (.slice Am nm cm)) (ds := [8]) #[false, false, false, false, false, false, false, false, false] (by kernel_rfl) rfl rfl ⟨hci, hcm⟩ (fun hHeld => ?_)
  refine pure_ (i := 0) (N := some 33) (v := ?_) (a' := ?_) #[true, false, false, false, false, false, false, false, false] rfl rfl (by kernel_rfl) (fun c a w h => hQ c a _ _ w h) (Or.inl ⟨by rfl, ?_⟩) ?_ ?_
  rotate_left
  · intro w'
    go_simp
    with_reducible rfl
  rotate_left
  · simp only [Act.put, List.setIfInBounds_toArray, List.set_cons_zero, List.set_cons_succ, i64_w, i32_w]
    rfl
  refine pure_ (i := 1) (N := some 34) (v := ?_) (a' := ?_) #[true, true, false, false, false, false, false, false, false] rfl rfl (by kernel_rfl) (fun c a w h => hQ c a _ _ w h) (Or.inl ⟨by rfl, ?_⟩) ?_ ?_
  rotate_left
  · intro w'
    go_simp
    with_reducible rfl
  rotate_left
  · simp only [Act.put, List.setIfInBounds_toArray, List.set_cons_zero, List.set_cons_succ, i64_w, i32_w]
    rfl
  refine pure_ (i := 2) (N := some 35) (v := ?_) (a' := ?_) #[true, true, true, false, false, false, false, false, false] rfl rfl (by kernel_rfl) (fun c a w h => hQ c a _ _ w h) (Or.inl ⟨by rfl, ?_⟩) ?_ ?_
  rotate_left
  · intro w'
    go_simp
    with_reducible rfl
  rotate_left
  · simp only [Act.put, List.setIfInBounds_toArray, List.set_cons_zero, List.set_cons_succ, i64_w, i32_w]
    rfl
  refine pure_ (i := 4) (N := some 37) (v := ?_) (a' := ?_) #[true, true, true, false, true, false, false, false, false] rfl rfl (by kernel_rfl) (fun c a w h => hQ c a _ _ w h) (Or.inl ⟨by rfl, ?_⟩) ?_ ?_
  rotate_left
  · intro w'
    go_simp
    with_reducible rfl
  rotate_left
  · simp only [Act.put, List.setIfInBounds_toArray, List.set_cons_zero, List.set_cons_succ, i64_w, i32_w]
    rfl
  refine pure_ (i := 5) (N := some 38) (v := ?_) (a' := ?_) #[true, true, true, false, true, true, false, false, false] rfl rfl (by kernel_rfl) (fun c a w h => hQ c a _ _ w h) (Or.inl ⟨by rfl, ?_⟩) ?_ ?_
  rotate_left
  · intro w'
    go_simp
    with_reducible rfl
  rotate_left
  · simp only [Act.put, List.setIfInBounds_toArray, List.set_cons_zero, List.set_cons_succ, i64_w, i32_w]
    rfl
  refine pure_ (i := 6) (N := some 39) (v := ?_) (a' := ?_) #[true, true, true, false, true, true, true, false, false] rfl rfl (by kernel_rfl) (fun c a w h => hQ c a _ _ w h) (Or.inl ⟨by rfl, ?_⟩) ?_ ?_
  rotate_left
  · intro w'
    go_simp
    with_reducible rfl
  rotate_left
  · simp only [Act.put, List.setIfInBounds_toArray, List.set_cons_zero, List.set_cons_succ, i64_w, i32_w]
    rfl
  refine take_ (i := 3) (N := some 36) (v := ?_) (a' := ?_) #[true, true, true, true, true, true, true, false, false] rfl rfl (by kernel_rfl) (fun c a w h => hQ c a _ _ w h) (Or.inl ⟨by rfl, ?_⟩) hHeld ?_ ?_
  rotate_left
  · rintro w' ⟨s0, s1⟩
    go_simp
    with_reducible rfl
  rotate_left
  · simp only [Act.put, List.setIfInBounds_toArray, List.set_cons_zero, List.set_cons_succ, i64_w, i32_w]
    rfl
  refine take_ (i := 7) (N := some 40) (v := ?_) (a' := ?_) #[true, true, true, true, true, true, true, true, false] rfl rfl (by kernel_rfl) (fun c a w h => hQ c a _ _ w h) (Or.inl ⟨by rfl, ?_⟩) hHeld ?_ ?_
  rotate_left
  · rintro w' ⟨s0, s1⟩
    go_simp
    with_reducible rfl
  rotate_left
  · simp only [Act.put, List.setIfInBounds_toArray, List.set_cons_zero, List.set_cons_succ, i64_w, i32_w]
    rfl
  refine last_ (i := 8) (N := some 41) #[true, true, true, true, true, true, true, true, true] rfl rfl (by kernel_rfl) (by decide) (fun K hK => ?_)
  refine copy_step (by rfl) rfl rfl rfl rfl hrun ?_
  refine hK.out _ _ ?_
  clear hK K
  refine norm_ (a' := ?_) ?_ ?_
  rotate_left
  · show Act.put _ (some 41) _ = _
    simp only [Act.put, List.setIfInBounds_toArray, List.set_cons_zero, List.set_cons_succ, i64_w, i32_w]
    rfl
  refine done_ (by kernel_rfl) ?_
  exact h ..
theorem swap_step {Q : Exit → Act → World → Prop} {w W : World} {t0 t1 t2 t3 t5 t6 t7 t10 t11 t12 t13 t14 t15 t16 t17 t18 t19 t20 t21 t22 t23 t24 t25 t26 t27 t28 t29 t30 t31 t32 t33 t34 t35 t36 t37 t38 t39 t40 t41 t42 t43 t44 t45 t46 t47 t48 t49 t50 t51 t52 t53 t54 t55 t56 t57 t58 t59 t60 t61 t62 t63 t64 t65 t66 t67 t68 t69 t70 t71 t72 t73 t74 t75 t76 t77 t78 t79 t80 t81 t82 t83 t84 t85 t86 t87 t88 t89 t90 t91 t92 t93 t94 t95 t96 t97 t98 t99 t100 t101 t102 t103 t104 t105 t106 t107 t108 t109 t110 t111 t112 t113 t114 t115 t116 t117 t118 t119 t120 t121 t122 t123 t124 t125 t126 t127 t128 t129 t130 t131 t132 t133 t134 t135 t136 t137 t138 t139 t140 t141 t142 t143 t144 t145 t146 t147 t148 t149 t150 t151 t152 t153 t154 t155 t156 t157 t158 t159 t160 t161 t162 t163 t164 t165 t166 t167 t168 t169 t170 : Value} {ds : List Deferred} {Av : Option Addr} {n cv : Nat} {rows rows' : List (List Int)} {i j : Int} (hS : Kd.S (Kd.slice 5 (Kd.int .u8)) 43 W w.heap.size (fun _ => True) (.slice Av n cv) rows) (hb : Below w.heap.size w W)
    (hsw : swapL rows i j = some rows') (hQ : ∀ c (a : Act) d v w, Q (.panic c) (a.put (some d) v) w → Q (.panic c) a w)
    (h : ∀ u65 u66 u67 u68 u69 u70 u71 u72 u73 u74 u75 u76 u77 u78 W2, Kd.S (Kd.slice 5 (Kd.int .u8)) 43 W2 w.heap.size (fun _ => True) (.slice Av n cv) rows' → W.grownBy W2 (Value.slice Av n cv).ownBlock → Below w.heap.size w W2 → Q .normal { tmps := #[t0, t1, t2, t3, .slice Av n cv, t5, t6, t7, .int .i64 i, .int .i64 j, t10, t11, t12, t13, t14, t15, t16, t17, t18, t19, t20, t21, t22, t23, t24, t25, t26, t27, t28, t29, t30, t31, t32, t33, t34, t35, t36, t37, t38, t39, t40, t41, t42, t43, t44, t45, t46, t47, t48, t49, t50, t51, t52, t53, t54, t55, t56, t57, t58, t59, t60, t61, t62, t63, t64, u65, u66, u67, u68, u69, u70, u71, u72, u73, u74, u75, u76, u77, u78, t79, t80, t81, t82, t83, t84, t85, t86, t87, t88, t89, t90, t91, t92, t93, t94, t95, t96, t97, t98, t99, t100, t101, t102, t103, t104, t105, t106, t107, t108, t109, t110, t111, t112, t113, t114, t115, t116, t117, t118, t119, t120, t121, t122, t123, t124, t125, t126, t127, t128, t129, t130, t131, t132, t133, t134, t135, t136, t137, t138, t139, t140, t141, t142, t143, t144, t145, t146, t147, t148, t149, t150, t151, t152, t153, t154, t155, t156, t157, t158, t159, t160, t161, t162, t163, t164, t165, t166, t167, t168, t169, t170], defers := ds } W2) :
    (Code.region 17 #[{ dst := some 65, op := Go.Op.move (Go.Operand.tmp 4), type := 22, pos := "matrix.go:88", after := #[], guard := none }, { dst := some 66, op := Go.Op.move (Go.Operand.tmp 8), type := 3, pos := "matrix.go:88", after := #[], guard := none }, { dst := some 67, op := Go.Op.move (Go.Operand.tmp 4), type := 22, pos := "matrix.go:88", after := #[{ on := 13, ground := Go.Ground.gcOnly Go.Departure.lateStores }], guard := none }, { dst := some 68, op := Go.Op.move (Go.Operand.tmp 9), type := 3, pos := "matrix.go:88", after := #[{ on := 13, ground := Go.Ground.gcOnly Go.Departure.lateStores }], guard := none }, { dst := some 69, op := Go.Op.move (Go.Operand.tmp 4), type := 22, pos := "matrix.go:88", after := #[], guard := none }, { dst := some 70, op := Go.Op.move (Go.Operand.tmp 9), type := 3, pos := "matrix.go:88", after := #[], guard := none }, { dst := some 71, op := Go.Op.indexAddr 22 (Go.Operand.tmp 69) (Go.Operand.tmp 70), type := 0, pos := "matrix.go:88", after := #[{ on := 4, ground := Go.Ground.data }, { on := 5, ground := Go.Ground.data }], guard := none }, { dst := some 72, op := Go.Op.load 43 (Go.Operand.tmp 71), type := 43, pos := "matrix.go:88", after := #[{ on := 6, ground := Go.Ground.data }], guard := none }, { dst := some 73, op := Go.Op.move (Go.Operand.tmp 4), type := 22, pos := "matrix.go:88", after := #[], guard := none }, { dst := some 74, op := Go.Op.move (Go.Operand.tmp 8), type := 3, pos := "matrix.go:88", after := #[], guard := none }, { dst := some 75, op := Go.Op.indexAddr 22 (Go.Operand.tmp 73) (Go.Operand.tmp 74), type := 0, pos := "matrix.go:88", after := #[{ on := 8, ground := Go.Ground.data }, { on := 9, ground := Go.Ground.data }], guard := none }, { dst := some 76, op := Go.Op.load 43 (Go.Operand.tmp 75), type := 43, pos := "matrix.go:88", after := #[{ on := 10, ground := Go.Ground.data }], guard := none }, { dst := some 77, op := Go.Op.indexAddr 22 (Go.Operand.tmp 65) (Go.Operand.tmp 66), type := 0, pos := "matrix.go:88", after := #[{ on := 0, ground := Go.Ground.data }, { on := 1, ground := Go.Ground.data }, { on := 0, ground := Go.Ground.phase }, { on := 1, ground := Go.Ground.phase }, { on := 2, ground := Go.Ground.textOnly Go.Departure.lateStores }, { on := 3, ground := Go.Ground.textOnly Go.Departure.lateStores }, { on := 4, ground := Go.Ground.phase }, { on := 5, ground := Go.Ground.phase }, { on := 6, ground := Go.Ground.phase }, { on := 7, ground := Go.Ground.phase }, { on := 8, ground := Go.Ground.textOnly Go.Departure.lateStores }, { on := 9, ground := Go.Ground.textOnly Go.Departure.lateStores }, { on := 10, ground := Go.Ground.textOnly Go.Departure.lateStoresUnsure }, { on := 11, ground := Go.Ground.phase }], guard := none }, { dst := none, op := Go.Op.store 43 (Go.Operand.tmp 77) (Go.Operand.tmp 72), type := 0, pos := "matrix.go:88", after := #[{ on := 12, ground := Go.Ground.data }, { on := 7, ground := Go.Ground.data }, { on := 0, ground := Go.Ground.phase }, { on := 1, ground := Go.Ground.phase }, { on := 2, ground := Go.Ground.textOnly Go.Departure.lateStores }, { on := 3, ground := Go.Ground.textOnly Go.Departure.lateStores }, { on := 4, ground := Go.Ground.phase }, { on := 5, ground := Go.Ground.phase }, { on := 6, ground := Go.Ground.phase }, { on := 7, ground := Go.Ground.phase }, { on := 8, ground := Go.Ground.textOnly Go.Departure.lateStores }, { on := 9, ground := Go.Ground.textOnly Go.Departure.lateStores }, { on := 10, ground := Go.Ground.textOnly Go.Departure.lateStoresUnsure }, { on := 11, ground := Go.Ground.phase }], guard := none }, { dst := some 78, op := Go.Op.indexAddr 22 (Go.Operand.tmp 67) (Go.Operand.tmp 68), type := 0, pos := "matrix.go:88", after := #[{ on := 2, ground := Go.Ground.data }, { on := 3, ground := Go.Ground.data }, { on := 0, ground := Go.Ground.phase }, { on := 1, ground := Go.Ground.phase }, { on := 2, ground := Go.Ground.phase }, { on := 3, ground := Go.Ground.phase }, { on := 4, ground := Go.Ground.phase }, { on := 5, ground := Go.Ground.phase }, { on := 6, ground := Go.Ground.phase }, { on := 7, ground := Go.Ground.phase }, { on := 8, ground := Go.Ground.phase }, { on := 9, ground := Go.Ground.phase }, { on := 10, ground := Go.Ground.phase }, { on := 11, ground := Go.Ground.phase }, { on := 12, ground := Go.Ground.phase }, { on := 13, ground := Go.Ground.phase }], guard := none }, { dst := none, op := Go.Op.store 43 (Go.Operand.tmp 78) (Go.Operand.tmp 76), type := 0, pos := "matrix.go:88", after := #[{ on := 14, ground := Go.Ground.data }, { on := 11, ground := Go.Ground.data }, { on := 13, ground := Go.Ground.chain }, { on := 0, ground := Go.Ground.phase }, { on := 1, ground := Go.Ground.phase }, { on := 2, ground := Go.Ground.phase }, { on := 3, ground := Go.Ground.phase }, { on := 4, ground := Go.Ground.phase }, { on := 5, ground := Go.Ground.phase }, { on := 6, ground := Go.Ground.phase }, { on := 7, ground := Go.Ground.phase }, { on := 8, ground := Go.Ground.phase }, { on := 9, ground := Go.Ground.phase }, { on := 10, ground := Go.Ground.phase }, { on := 11, ground := Go.Ground.phase }, { on := 12, ground := Go.Ground.phase }, { on := 13, ground := Go.Ground.phase }], guard := none }] true).wp Tryd.prog Q { tmps := #[t0, t1, t2, t3, .slice Av n cv, t5, t6, t7, .int .i64 i, .int .i64 j, t10, t11, t12, t13, t14, t15, t16, t17, t18, t19, t20, t21, t22, t23, t24, t25, t26, t27, t28, t29, t30, t31, t32, t33, t34, t35, t36, t37, t38, t39, t40, t41, t42, t43, t44, t45, t46, t47, t48, t49, t50, t51, t52, t53, t54, t55, t56, t57, t58, t59, t60, t61, t62, t63, t64, t65, t66, t67, t68, t69, t70, t71, t72, t73, t74, t75, t76, t77, t78, t79, t80, t81, t82, t83, t84, t85, t86, t87, t88, t89, t90, t91, t92, t93, t94, t95, t96, t97, t98, t99, t100, t101, t102, t103, t104, t105, t106, t107, t108, t109, t110, t111, t112, t113, t114, t115, t116, t117, t118, t119, t120, t121, t122, t123, t124, t125, t126, t127, t128, t129, t130, t131, t132, t133, t134, t135, t136, t137, t138, t139, t140, t141, t142, t143, t144, t145, t146, t147, t148, t149, t150, t151, t152, t153, t154, t155, t156, t157, t158, t159, t160, t161, t162, t163, t164, t165, t166, t167, t168, t169, t170], defers := ds } W := by
  unfold swapL at hsw
  by_cases hc : 0 ≤ i ∧ i < rows.length ∧ 0 ≤ j ∧ j < rows.length
  · rw [if_pos hc] at hsw
    obtain rfl := Option.some.inj hsw
    have hn : n = rows.length := (Kd.S_reads' hS).1
    obtain ⟨g, Ai, ni, ci, Aj, nj, cj, x, rfl, e1, e2, f1, f2, ex, hS2, hg, hbg, _⟩ := KdMore.S_swap hS i j hc.1 hc.2.1 hc.2.2.1 hc.2.2.2
    refine swap_walk t0 t1 t2 t3 t5 t6 t7 t10 t11 t12 t13 t14 t15 t16 t17 t18 t19 t20 t21 t22 t23 t24 t25 t26 t27 t28 t29 t30 t31 t32 t33 t34 t35 t36 t37 t38 t39 t40 t41 t42 t43 t44 t45 t46 t47 t48 t49 t50 t51 t52 t53 t54 t55 t56 t57 t58 t59 t60 t61 t62 t63 t64 t65 t66 t67 t68 t69 t70 t71 t72 t73 t74 t75 t76 t77 t78 t79 t80 t81 t82 t83 t84 t85 t86 t87 t88 t89 t90 t91 t92 t93 t94 t95 t96 t97 t98 t99 t100 t101 t102 t103 t104 t105 t106 t107 t108 t109 t110 t111 t112 t113 t114 t115 t116 t117 t118 t119 t120 t121 t122 t123 t124 t125 t126 t127 t128 t129 t130 t131 t132 t133 t134 t135 t136 t137 t138 t139 t140 t141 t142 t143 t144 t145 t146 t147 t148 t149 t150 t151 t152 t153 t154 t155 t156 t157 t158 t159 t160 t161 t162 t163 t164 t165 t166 t167 t168 t169 t170 ds hQ _ n cv i j g Ai Aj ni nj ci cj x rfl hc.1 (by omega) hc.2.2.1 (by omega) e1 e2 f1 f2 ex ?_
    intro u65 u66 u67 u68 u69 u70 u71 u72 u73 u74 u75 u76 u77 u78
    exact h u65 u66 u67 u68 u69 u70 u71 u72 u73 u74 u75 u76 u77 u78 _ hS2 hg (pw_below_grown hb (some g) hb.size hg (by intro k hk; injection hk with hk; omega))
  · rw [if_neg hc] at hsw; cases hsw
theorem copy_step_ {Q : Exit → Act → World → Prop} {w W : World} {t1 t2 t3 t6 t7 t8 t9 t10 t11 t12 t13 t14 t15 t16 t17 t18 t19 t20 t21 t22 t23 t24 t25 t26 t27 t28 t29 t30 t31 t32 t33 t34 t35 t36 t37 t38 t39 t40 t41 t42 t43 t44 t45 t46 t47 t48 t49 t50 t51 t52 t53 t54 t55 t56 t57 t58 t59 t60 t61 t62 t63 t64 t65 t66 t67 t68 t69 t70 t71 t72 t73 t74 t75 t76 t77 t78 t79 t80 t81 t82 t83 t84 t85 t86 t87 t88 t89 t90 t91 t92 t93 t94 t95 t96 t97 t98 t99 t100 t101 t102 t103 t104 t105 t106 t107 t108 t109 t110 t111 t112 t113 t114 t115 t116 t117 t118 t119 t120 t121 t122 t123 t124 t125 t126 t127 t128 t129 t130 t131 t132 t133 t134 t135 t136 t137 t138 t139 t140 t141 t142 t143 t144 t145 t146 t147 t148 t149 t150 t151 t152 t153 t154 t155 t156 t157 t158 t159 t160 t161 t162 t163 t164 t165 t166 t167 t168 t169 t170 : Value} {ds : List Deferred} {A0 Av : Option Addr} {n0 n c0 cv : Nat} {m rows rows' : List (List Int)} {i : Int} (hS : Kd.S (Kd.slice 5 (Kd.int .u8)) 43 W w.heap.size (fun _ => True) (.slice Av n cv) rows) (hb : Below w.heap.size w W) (hC : Kd.C (Kd.slice 5 (Kd.int .u8)) W A0 n0 m)
    (hcp : copyL rows m i = some rows') (hQ : ∀ c (a : Act) d v w, Q (.panic c) (a.put (some d) v) w → Q (.panic c) a w)
    (h : ∀ u33 u34 u35 u36 u37 u38 u39 u40 u41 W2, Kd.S (Kd.slice 5 (Kd.int .u8)) 43 W2 w.heap.size (fun _ => True) (.slice Av n cv) rows' → Below w.heap.size w W2 → Q .normal { tmps := #[.slice A0 n0 c0, t1, t2, t3, .slice Av n cv, .int .i64 i, t6, t7, t8, t9, t10, t11, t12, t13, t14, t15, t16, t17, t18, t19, t20, t21, t22, t23, t24, t25, t26, t27, t28, t29, t30, t31, t32, u33, u34, u35, u36, u37, u38, u39, u40, u41, t42, t43, t44, t45, t46, t47, t48, t49, t50, t51, t52, t53, t54, t55, t56, t57, t58, t59, t60, t61, t62, t63, t64, t65, t66, t67, t68, t69, t70, t71, t72, t73, t74, t75, t76, t77, t78, t79, t80, t81, t82, t83, t84, t85, t86, t87, t88, t89, t90, t91, t92, t93, t94, t95, t96, t97, t98, t99, t100, t101, t102, t103, t104, t105, t106, t107, t108, t109, t110, t111, t112, t113, t114, t115, t116, t117, t118, t119, t120, t121, t122, t123, t124, t125, t126, t127, t128, t129, t130, t131, t132, t133, t134, t135, t136, t137, t138, t139, t140, t141, t142, t143, t144, t145, t146, t147, t148, t149, t150, t151, t152, t153, t154, t155, t156, t157, t158, t159, t160, t161, t162, t163, t164, t165, t166, t167, t168, t169, t170], defers := ds } W2) :
    (Code.region 6 #[{ dst := some 33, op := Go.Op.move (Go.Operand.tmp 4), type := 22, pos := "matrix.go:78", after := #[], guard := none }, { dst := some 34, op := Go.Op.move (Go.Operand.tmp 5), type := 3, pos := "matrix.go:78", after := #[], guard := none }, { dst := some 35, op := Go.Op.indexAddr 22 (Go.Operand.tmp 33) (Go.Operand.tmp 34), type := 0, pos := "matrix.go:78", after := #[{ on := 0, ground := Go.Ground.data }, { on := 1, ground := Go.Ground.data }], guard := none }, { dst := some 36, op := Go.Op.load 43 (Go.Operand.tmp 35), type := 43, pos := "matrix.go:78", after := #[{ on := 2, ground := Go.Ground.data }], guard := none }, { dst := some 37, op := Go.Op.move (Go.Operand.tmp 0), type := 22, pos := "matrix.go:78", after := #[], guard := none }, { dst := some 38, op := Go.Op.move (Go.Operand.tmp 5), type := 3, pos := "matrix.go:78", after := #[], guard := none }, { dst := some 39, op := Go.Op.indexAddr 22 (Go.Operand.tmp 37) (Go.Operand.tmp 38), type := 0, pos := "matrix.go:78", after := #[{ on := 4, ground := Go.Ground.data }, { on := 5, ground := Go.Ground.data }], guard := none }, { dst := some 40, op := Go.Op.load 43 (Go.Operand.tmp 39), type := 43, pos := "matrix.go:78", after := #[{ on := 6, ground := Go.Ground.data }], guard := none }, { dst := some 41, op := Go.Op.call { callee := Go.Callee.builtin Go.Builtin.copy, args := #[Go.Operand.tmp 36, Go.Operand.tmp 40], argTypes := #[43, 43] }, type := 3, pos := "matrix.go:78", after := #[{ on := 3, ground := Go.Ground.data }, { on := 7, ground := Go.Ground.data }], guard := none }] true).wp Tryd.prog Q { tmps := #[.slice A0 n0 c0, t1, t2, t3, .slice Av n cv, .int .i64 i, t6, t7, t8, t9, t10, t11, t12, t13, t14, t15, t16, t17, t18, t19, t20, t21, t22, t23, t24, t25, t26, t27, t28, t29, t30, t31, t32, t33, t34, t35, t36, t37, t38, t39, t40, t41, t42, t43, t44, t45, t46, t47, t48, t49, t50, t51, t52, t53, t54, t55, t56, t57, t58, t59, t60, t61, t62, t63, t64, t65, t66, t67, t68, t69, t70, t71, t72, t73, t74, t75, t76, t77, t78, t79, t80, t81, t82, t83, t84, t85, t86, t87, t88, t89, t90, t91, t92, t93, t94, t95, t96, t97, t98, t99, t100, t101, t102, t103, t104, t105, t106, t107, t108, t109, t110, t111, t112, t113, t114, t115, t116, t117, t118, t119, t120, t121, t122, t123, t124, t125, t126, t127, t128, t129, t130, t131, t132, t133, t134, t135, t136, t137, t138, t139, t140, t141, t142, t143, t144, t145, t146, t147, t148, t149, t150, t151, t152, t153, t154, t155, t156, t157, t158, t159, t160, t161, t162, t163, t164, t165, t166, t167, t168, t169, t170], defers := ds } W := by
  unfold copyL at hcp
  by_cases hc : 0 ≤ i ∧ i < rows.length ∧ i < m.length
  · rw [if_pos hc] at hcp
    obtain rfl := Option.some.inj hcp
    have hn : n = rows.length := (Kd.S_reads' hS).1
    have hn0 : m.length = n0 := hC.1
    obtain ⟨g, adm, Ad, Am, nd, nm, cd, cm, vc, W2, rfl, rfl, e1, e2, hrun, hS2, hg, hbg, _, _⟩ := KdMore.S_copy (P := Tryd.prog) (T := 43) (ty := 3) hS hC (by kernel_rfl) (by kernel_rfl) i hc.1 hc.2.1 hc.2.2
    refine copy_walk t1 t2 t3 t6 t7 t8 t9 t10 t11 t12 t13 t14 t15 t16 t17 t18 t19 t20 t21 t22 t23 t24 t25 t26 t27 t28 t29 t30 t31 t32 t33 t34 t35 t36 t37 t38 t39 t40 t41 t42 t43 t44 t45 t46 t47 t48 t49 t50 t51 t52 t53 t54 t55 t56 t57 t58 t59 t60 t61 t62 t63 t64 t65 t66 t67 t68 t69 t70 t71 t72 t73 t74 t75 t76 t77 t78 t79 t80 t81 t82 t83 t84 t85 t86 t87 t88 t89 t90 t91 t92 t93 t94 t95 t96 t97 t98 t99 t100 t101 t102 t103 t104 t105 t106 t107 t108 t109 t110 t111 t112 t113 t114 t115 t116 t117 t118 t119 t120 t121 t122 t123 t124 t125 t126 t127 t128 t129 t130 t131 t132 t133 t134 t135 t136 t137 t138 t139 t140 t141 t142 t143 t144 t145 t146 t147 t148 t149 t150 t151 t152 t153 t154 t155 t156 t157 t158 t159 t160 t161 t162 t163 t164 t165 t166 t167 t168 t169 t170 ds hQ _ _ n0 n c0 cv i g adm Ad Am nd nm cd cm vc rfl rfl hc.1 (by omega) (by omega) e1 e2 hrun ?_
    intro u33 u34 u35 u36 u37 u38 u39 u40 u41
    exact h u33 u34 u35 u36 u37 u38 u39 u40 u41 _ hS2 (pw_below_grown hb _ hb.size hg hbg)
  · rw [if_neg hc] at hcp; cases hcp
end Go.Proofs.YtijebgceopddmaaDoor.Pr
end
section
namespace Go.Proofs.YtijebgceopddmaaDoor.Prt
open Go.RowKit Go.Proofs.YtijebgceopddmaaDoor.Gf Go.Proofs.YtijebgceopddmaaDoor.Pr Go.Proofs.YtijebgceopddmaaDoorW.PrintWords Go.Proofs.YtijebgceopddmaaDoorW.PrintLast Go.Proofs.YtijebgceopddmaaDoorW.PrintMore
attribute [local go_sem] max2_int min2_int max_two min_two max_three min_three max_four min_four   -- for this text's walks alone
set_option linter.unusedVariables false
set_option linter.unusedSimpArgs false
def errW : Option Int → Value
 | none => .nilIface
 | some c => .iface 0 (.int .i64 c)
theorem errW_none : errW none = .nilIface := rfl
theorem errW_some (c : Int) : errW (some c) = .iface 0 (.int .i64 c) := rfl
theorem info3 : (Tryd.prog.info? 3).map (fun i => (i.zero, i.size, i.bytes)) = some (some (.int .i64 0), 1, 8) := by kernel_rfl
theorem info5 : (Tryd.prog.info? 5).map (fun i => (i.zero, i.size, i.bytes)) = some (some (.int .u8 0), 1, 1) := by kernel_rfl
theorem info43 : (Tryd.prog.info? 43).map (fun i => (i.zero, i.size, i.bytes)) = some (some (.slice none 0 0), 1, 24) := by kernel_rfl
-- the values' own types
def rd_L1 (xs : List (List Int)) (i : Int) : (List Int) := xs.getD i.toNat ([] : List Int)
theorem at_L1 {w : World} {A : Option Addr} {n : Nat} {xs : List (List Int)} (h : Kd.C (Kd.slice 5 (Kd.int .u8)) w A n xs) (i : Int) (h0 : 0 ≤ i) (h1 : i < n) : ∃ ad A0 c0, A = some ad ∧ w.cell? (ad.add i.toNat) = some (.slice A0 (rd_L1 xs i).length c0) ∧ (rd_L1 xs i).length ≤ c0 ∧ (Kd.int .u8).C w A0 (rd_L1 xs i).length (rd_L1 xs i) := by
 obtain ⟨ad, c, e, _, hK, hc0⟩ := Kd.C_get h ([] : List Int) i h0 h1
 have hc : ∀ j u, c[j]? = some u → w.cell? (ad.add (i.toNat * 1 + j)) = some u := hc0
 obtain ⟨A0, c0, rfl, l0, g0⟩ := hK
 exact ⟨ad, A0, c0, e, by have hq := hc 0 _ rfl; rwa [Nat.mul_one, Nat.add_zero] at hq, l0, g0⟩
end Go.Proofs.YtijebgceopddmaaDoor.Prt
end
section
namespace Go.Proofs.YtijebgceopddmaaDoor.Prt
open Go.RowKit Go.Proofs.YtijebgceopddmaaDoor.Gf Go.Proofs.YtijebgceopddmaaDoor.Pr Go.Proofs.YtijebgceopddmaaDoorW.PrintWords Go.Proofs.YtijebgceopddmaaDoorW.PrintLast Go.Proofs.YtijebgceopddmaaDoorW.PrintMore
attribute [local go_sem] max2_int min2_int max_two min_two max_three min_three max_four min_four   -- for this text's walks alone
set_option linter.unusedVariables false
set_option linter.unusedSimpArgs false
def matrix_columns.f (l0 : List (List Int)) : Option (Int) := if (l0.length : Int) = 0 then (some 0) else (if 0 < (l0.length : Int) then (some ((rd_L1 l0 0).length : Int)) else (none))
set_option maxHeartbeats 8000000 in
set_option maxRecDepth 100000 in
theorem matrix_columns.calls (A0 : Option Addr) (c0 : Nat) (l0 : List (List Int)) (r : Int) (w : World) (hr0 : Kd.C (Kd.slice 5 (Kd.int .u8)) w A0 l0.length l0) (hc0 : l0.length ≤ c0) (h : matrix_columns.f l0 = some r) :
  Calls Tryd.prog 36 #[.slice A0 l0.length c0] w fun e w' => e = .returned (.int .i64 r) ∧ Drawn0 w w' := by
 have HR0 := Aside0.mk hr0
 have HC0 := Aside0.mk hc0
 clear hr0 hc0
 have H : (if (l0.length : Int) = 0 then (some 0) else (if 0 < (l0.length : Int) then (some ((rd_L1 l0 0).length : Int)) else (none))) = some r := h
 clear h
 by_cases c2 : (l0.length : Int) = 0
 ·rw [if_pos c2] at H
  have c2b0 : ((l0.length : Int) == 0) = true := beq_iff_eq.mpr c2
  have c2b1 : ((l0.length : Int) != 0) = false := bne_eq_false_iff_eq.mpr c2
  clear c2
  obtain rfl := Option.some.inj H
  go_enter Tryd.func36, Tryd.ntmps36
  go_wp2
  go_ret
  exact ⟨by first | rfl | (simp; done) | (simp [*]; done), by repeat (first | exact Drawn0.refl _ | apply Drawn0.step)⟩
 ·rw [if_neg c2] at H
  have c2b0 : ((l0.length : Int) == 0) = false := beq_eq_false_iff_ne.mpr c2
  have c2b1 : ((l0.length : Int) != 0) = true := bne_iff_ne.mpr c2
  have c2b2 : ¬ (l0 = []) := fun h_ => c2 (by rw [h_]; rfl)
  by_cases c3 : 0 < (l0.length : Int)
  ·rw [if_pos c3] at H
   have c3b0 : decide (0 < (l0.length : Int)) = true := decide_eq_true c3
   have c3b1 : decide (0 < l0.length) = true := decide_eq_true (by omega)
   clear c3
   obtain rfl := Option.some.inj H
   have p101 : 0 ≤ (0 : Int) := (by omega)
   have q101 : 0 < (l0.length : Int) := of_decide_eq_true (by first | (with_reducible assumption) | assumption)
   obtain ⟨ad101, A101_0, c101_0, e101, hx101_0, hl101_0, hi101_0⟩ := at_L1 HR0.out 0 p101 q101
   cases e101
   have qi101 : (0 < l0.length) = True := eq_true (by omega)
   (try rw [show ((0 : Int)).toNat = 0 from rfl] at hx101_0)
   (try rw [Addr.add_zero'] at hx101_0)
   have HR101_0 := Aside0.mk hi101_0
   have HC101_0 := Aside0.mk hl101_0
   clear hi101_0 hl101_0
   replace p101 := eq_true p101
   replace q101 := eq_true q101
   go_enter Tryd.func36, Tryd.ntmps36
   go_wp2
   go_ret
   exact ⟨by first | rfl | (simp; done) | (simp [*]; done), by repeat (first | exact Drawn0.refl _ | apply Drawn0.step)⟩
  ·rw [if_neg c3] at H
   exact absurd H (by simp)
end Go.Proofs.YtijebgceopddmaaDoor.Prt
end
section
namespace Go.Proofs.YtijebgceopddmaaDoor.Prt
open Go.RowKit Go.Proofs.YtijebgceopddmaaDoor.Gf Go.Proofs.YtijebgceopddmaaDoor.Pr Go.Proofs.YtijebgceopddmaaDoorW.PrintWords Go.Proofs.YtijebgceopddmaaDoorW.PrintLast Go.Proofs.YtijebgceopddmaaDoorW.PrintMore
attribute [local go_sem] max2_int min2_int max_two min_two max_three min_three max_four min_four   -- for this text's walks alone
set_option linter.unusedVariables false
set_option linter.unusedSimpArgs false
mutual
def matrix_reduce.l0 : Nat → List (List Int) → List (List Int) → Int → Int → Option ((List (List Int)) × List Int)
 | 0, _, _, _, _ => none
 | k + 1, x0, x4, x20, x21 => if x21 < x20 then (if 0 ≤ x21 then (if x21 < (x0.length : Int) then (if 0 ≤ ((rd_L1 x0 x21).length : Int) then (if (((rd_L1 x0 x21).length : Int) : Int).toNat ≤ 281474976710656 then (if x21 < (x4.length : Int) then ((copyL (x4.set (x21 : Int).toNat (List.replicate (((rd_L1 x0 x21).length : Int) : Int).toNat 0)) x0 x21).bind fun t110 => (matrix_reduce.l0 k x0 t110 x20 (wrap64 (x21 + 1)))) else (none)) else (none)) else (none)) else (none)) else (none)) else ((matrix_columns.f x0).bind fun t111 => (matrix_reduce.l1 k x4 ([] : List Int) t111 0))
def matrix_reduce.l1 : Nat → List (List Int) → List Int → Int → Int → Option ((List (List Int)) × List Int)
 | 0, _, _, _, _ => none
 | k + 1, x4, x6, x44, x45 => if x45 < x44 then (matrix_reduce.l2 k x4 x6 x45 (x6.length : Int) (x6.length : Int) x44 x45) else (if 0 ≤ (x6.length : Int) then (if (x6.length : Int) ≤ (x4.length : Int) then (some ((x4.take ((x6.length : Int) : Int).toNat), x6)) else (none)) else (none))
def matrix_reduce.l2 : Nat → List (List Int) → List Int → Int → Int → Int → Int → Int → Option ((List (List Int)) × List Int)
 | 0, _, _, _, _, _, _, _ => none
 | k + 1, x4, x6, x7, x8, x9, x44, x45 => if x9 < (x4.length : Int) then (if 0 ≤ x9 then (if 0 ≤ x7 then (if x7 < ((rd_L1 x4 x9).length : Int) then (if (rd (rd_L1 x4 x9) x7) = 0 then (matrix_reduce.l2 k x4 x6 x7 x8 (wrap64 (x9 + 1)) x44 x45) else ((swapL x4 x8 x9).bind fun t117 => (if 0 ≤ x8 then (if x8 < (x4.length : Int) then (if x7 < ((rd_L1 t117 x8).length : Int) then ((gf_Inv.f k (rd (rd_L1 t117 x8) x7)).bind fun bt120 => (matrix_reduce.l3 k t117 x6 x7 x8 bt120.1 x44 x45 ((rd_L1 t117 x8).length : Int) 0)) else (none)) else (none)) else (none)))) else (none)) else (none)) else (none)) else (matrix_reduce.l1 k x4 x6 x44 (wrap64 (x45 + 1)))
def matrix_reduce.l3 : Nat → List (List Int) → List Int → Int → Int → Int → Int → Int → Int → Int → Option ((List (List Int)) × List Int)
 | 0, _, _, _, _, _, _, _, _, _ => none
 | k + 1, x4, x6, x7, x8, x10, x44, x45, x94, x95 => if x95 < x94 then (if 0 ≤ x8 then (if x8 < (x4.length : Int) then (if 0 ≤ x95 then (if x95 < ((rd_L1 x4 x8).length : Int) then ((gf_Mul.f k (rd (rd_L1 x4 x8) x95) x10).bind fun t126 => (matrix_reduce.l3 k (x4.set (x8 : Int).toNat ((rd_L1 x4 x8).set (x95 : Int).toNat t126)) x6 x7 x8 x10 x44 x45 x94 (wrap64 (x95 + 1)))) else (none)) else (none)) else (none)) else (none)) else (matrix_reduce.l4 k x4 x6 x7 x8 x44 x45 (x4.length : Int) 0)
def matrix_reduce.l4 : Nat → List (List Int) → List Int → Int → Int → Int → Int → Int → Int → Option ((List (List Int)) × List Int)
 | 0, _, _, _, _, _, _, _, _ => none
 | k + 1, x4, x6, x7, x8, x44, x45, x115, x116 => if x116 < x115 then (if 0 ≤ x116 then (if x116 < (x4.length : Int) then (if 0 ≤ x7 then (if x7 < ((rd_L1 x4 x116).length : Int) then (if x116 = x8 then (matrix_reduce.j5 k x4 x6 x7 x8 x116 (rd (rd_L1 x4 x116) x7) x44 x45 x115 x116 false) else (matrix_reduce.j5 k x4 x6 x7 x8 x116 (rd (rd_L1 x4 x116) x7) x44 x45 x115 x116 ((rd (rd_L1 x4 x116) x7) != 0))) else (none)) else (none)) else (none)) else (none)) else (if x6.length < 17592186044416 then (matrix_reduce.l1 k x4 (x6 ++ [x7]) x44 (wrap64 (x45 + 1))) else (none))
def matrix_reduce.j5 : Nat → List (List Int) → List Int → Int → Int → Int → Int → Int → Int → Int → Int → Bool → Option ((List (List Int)) × List Int)
 | 0, _, _, _, _, _, _, _, _, _, _, _ => none
 | k + 1, x4, x6, x7, x8, x13, x14, x44, x45, x115, x116, x132 => if x132 = true then (if 0 ≤ x13 then (if x13 < (x4.length : Int) then (matrix_reduce.l5 k x4 x6 x7 x8 x13 x14 x44 x45 x115 x116 ((rd_L1 x4 x13).length : Int) 0) else (none)) else (none)) else (matrix_reduce.l4 k x4 x6 x7 x8 x44 x45 x115 (wrap64 (x116 + 1)))
def matrix_reduce.l5 : Nat → List (List Int) → List Int → Int → Int → Int → Int → Int → Int → Int → Int → Int → Int → Option ((List (List Int)) × List Int)
 | 0, _, _, _, _, _, _, _, _, _, _, _, _ => none
 | k + 1, x4, x6, x7, x8, x13, x14, x44, x45, x115, x116, x137, x138 => if x138 < x137 then (if 0 ≤ x13 then (if x13 < (x4.length : Int) then (if 0 ≤ x138 then (if x138 < ((rd_L1 x4 x13).length : Int) then (if 0 ≤ x8 then (if x8 < (x4.length : Int) then (if x138 < ((rd_L1 x4 x8).length : Int) then ((gf_Mul.f k x14 (rd (rd_L1 x4 x8) x138)).bind fun t140 => (matrix_reduce.l5 k (x4.set (x13 : Int).toNat ((rd_L1 x4 x13).set (x138 : Int).toNat (Go.bits .xor .u8 (rd (rd_L1 x4 x13) x138) t140))) x6 x7 x8 x13 x14 x44 x45 x115 x116 x137 (wrap64 (x138 + 1)))) else (none)) else (none)) else (none)) else (none)) else (none)) else (none)) else (none)) else (matrix_reduce.l4 k x4 x6 x7 x8 x44 x45 x115 (wrap64 (x116 + 1)))
end
def matrix_reduce.f (k : Nat) (l0 : List (List Int)) : Option ((List (List Int)) × List Int) := if 0 ≤ (l0.length : Int) then (if ((l0.length : Int) : Int).toNat ≤ 11728124029610 then (matrix_reduce.l0 k l0 (List.replicate ((l0.length : Int) : Int).toNat []) (l0.length : Int) 0) else (none)) else (none)
def matrix_reduce.T22 : Bool × List (List Nat × List Nat) := (true, [([], []), ([], []), ([0, 1], [0, 1]), ([2], [2]), ([], []), ([], []), ([], []), ([5, 6], [5, 6]), ([7], [7]), ([], []), ([8, 9], [8, 9]), ([10], [10]), ([], []), ([11, 12], [11, 12]), ([3, 4, 0, 1, 2, 3, 4, 5, 6, 7, 8, 9, 10, 11, 12, 13], [3, 4]), ([14, 13, 13, 0, 1, 2, 3, 4, 5, 6, 7, 8, 9, 10, 11, 12, 13], [13, 14])])
def matrix_reduce.B22 : List Nat := [0, 0, 3, 7, 0, 0, 0, 96, 224, 0, 992, 2016, 0, 8160, 16383, 32767]
theorem matrix_reduce.tab22 : rtab .any (opsOf Tryd.f38 22) = matrix_reduce.T22 := by kernel_rfl
theorem matrix_reduce.bits22 : waitsOk matrix_reduce.T22.2 matrix_reduce.B22 = true := by kernel_rfl
def matrix_reduce.T32 : Bool × List (List Nat × List Nat) := (true, [([], []), ([], []), ([0, 1], [0, 1]), ([2], [2]), ([], []), ([3, 4], [3, 4]), ([5], [5]), ([], []), ([], []), ([], []), ([8, 9], [8, 9]), ([10], [10]), ([], []), ([11, 12], [11, 12]), ([13], [13]), ([7, 14], [7, 14]), ([6, 15], [6, 15]), ([3, 4, 0, 1, 2, 3, 4, 5, 6, 7, 8, 9, 10, 11, 12, 13, 14, 15, 16], [3, 4]), ([17, 16, 15, 0, 1, 2, 3, 4, 5, 6, 7, 8, 9, 10, 11, 12, 13, 14, 15, 16], [16, 17])])
def matrix_reduce.B32 : List Nat := [0, 0, 3, 7, 0, 31, 63, 0, 0, 0, 768, 1792, 0, 7936, 16128, 32640, 65535, 131071, 262143]
theorem matrix_reduce.tab32 : rtab .any (opsOf Tryd.f38 32) = matrix_reduce.T32 := by kernel_rfl
theorem matrix_reduce.bits32 : waitsOk matrix_reduce.T32.2 matrix_reduce.B32 = true := by kernel_rfl
set_option maxHeartbeats 8000000 in
set_option maxRecDepth 100000 in
theorem matrix_reduce.calls (k : Nat) (A0 : Option Addr) (c0 : Nat) (l0 : List (List Int)) (r1 : List (List Int)) (r2 : List Int) (w : World) (hG : HighIn w) (hr0 : Kd.C (Kd.slice 5 (Kd.int .u8)) w A0 l0.length l0) (hc0 : l0.length ≤ c0) (h : matrix_reduce.f k l0 = some (r1, r2)) :
  Calls Tryd.prog 38 #[.slice A0 l0.length c0] w fun e w' => ∃ v0_ v1_ : Value, e = .returned (.tuple #[v0_, v1_]) ∧ Kd.S (Kd.slice 5 (Kd.int .u8)) 43 w' w.heap.size (fun _ => True) v0_ r1 ∧ Kd.R (Kd.int .i64) 3 w' w.heap.size (fun _ => True) v1_ r2 ∧ Below w.heap.size w w' := by
 have HG := Aside0.mk hG
 clear hG
 have HR0 := Aside0.mk hr0
 have HC0 := Aside0.mk hc0
 clear hr0 hc0
 have HB := Aside0.mk (Below.refl w.heap.size w)
 have H : (if 0 ≤ (l0.length : Int) then (if ((l0.length : Int) : Int).toNat ≤ 11728124029610 then (matrix_reduce.l0 k l0 (List.replicate ((l0.length : Int) : Int).toNat []) (l0.length : Int) 0) else (none)) else (none)) = some (r1, r2) := h
 clear h
 by_cases c2 : 0 ≤ (l0.length : Int)
 ·rw [if_pos c2] at H
  have c2b0 := eq_true c2
  have c2b1 : decide (0 ≤ (l0.length : Int)) = true := decide_eq_true c2
  clear c2
  by_cases c3 : ((l0.length : Int) : Int).toNat ≤ 11728124029610
  ·rw [if_pos c3] at H
   have c3b0 := eq_true c3
   have c3b1 : decide (((l0.length : Int) : Int).toNat ≤ 11728124029610) = true := decide_eq_true c3
   clear c3
   obtain ⟨y102, hy102⟩ : ∃ y_ : List (List Int), y_ = (List.replicate ((l0.length : Int) : Int).toNat []) := ⟨_, rfl⟩
   replace H : (matrix_reduce.l0 k l0 y102 (l0.length : Int) 0) = some (r1, r2) := by first | (rw [hy102]; with_reducible exact H) | (have H2_ := (Option.bind_some _ _).symm.trans H; rw [hy102]; with_reducible exact H2_) | (have H2_ := (Option.bind_some _ _).symm.trans H; with_reducible exact H2_) | with_reducible exact H | (rw [hy102]; exact H) | exact H
   have Ny102 := Aside0.mk hy102
   clear hy102
   have H' := Aside0.mk H
   clear H
   go_enter Tryd.func38, Tryd.ntmps38
   (try refine wp_scope_straight ?_)
   go_wp2_with (first | ((with_reducible refine gate_dst (N := 18) rfl ?_); refine Kd.S_make (Kd.slice 5 (Kd.int .u8)) _ 43 rfl (N := 18) rfl 22 _ _ rfl (l0.length : Int) rfl rfl Tryd.underlying22 (.slice none 0 0) 24 info43 rfl (by decide) (by omega) [] (ok := fun _ => True) (okp := fun _ => True) ⟨_, rfl, Kd.R_nil _ _ _ _ _⟩ (fun _ hk => hk) trivial (of_decide_eq_true (by first | (with_reducible assumption) | assumption)) (Nat.le_trans (Nat.mul_le_mul_right _ (of_decide_eq_true (by first | (with_reducible assumption) | assumption) : (l0.length : Int).toNat ≤ 11728124029610)) (by omega)) (Below.refl _ _) (Nat.le_refl _) ?_; intro v103 w4 ho5 hb hg_ hnew_; clear hg_ hnew_; (first | rw [← Ny102.out] at ho5 | (simp only [Int.reduceToNat] at ho5; rw [← Ny102.out] at ho5)); have n0_ := Aside0.mk (Kd.S_lower ho5 (below_size (by repeat (first | (with_reducible first | exact HB.out | apply below_alloc | apply pw_below_drewN | apply below_drew1) | exact HB.out)))); have n1_ := Aside0.mk (below_step (by repeat (first | (with_reducible first | exact HB.out | apply below_alloc | apply pw_below_drewN | apply below_drew1) | exact HB.out)) hb); clear HB; have HO104 := n0_; have HB := n1_; clear n0_ n1_; clear hb ho5) | (go_step3))
   go_loopg [21] k (fun kq v21 w' => ∃ (x4_1 : List (List Int)) (x21_1 : Int), v21 = .int .i64 x21_1 ∧ Aside0 (matrix_reduce.l0 kq l0 x4_1 (l0.length : Int) x21_1 = some (r1, r2)) ∧ Aside0 (kq ≤ k) ∧ Aside0 (Kd.S (Kd.slice 5 (Kd.int .u8)) 43 w' w.heap.size (fun _ => True) v103 x4_1) ∧ Aside0 (Below w.heap.size w w'))
   case atStart => exact ⟨(y102), (0), (by first | rfl | (simp; done) | (simp [*]; done)), H', ⟨Nat.le_refl _⟩, ⟨by (with_reducible repeat (first | apply Kd.S_alloc | apply Kd.S_drewN | apply Kd.S_drew)); exact HO104.out⟩, ⟨by repeat (first | (with_reducible first | exact HB.out | apply below_alloc | apply pw_below_drewN | apply below_drew1) | exact HB.out)⟩⟩
   case round =>
    clear H'
    try clear c2
    try clear c2b0
    try clear c2b1
    try clear p2
    try clear c3
    try clear c3b0
    try clear c3b1
    try clear p3
    obtain ⟨x4_1, x21_1, rfl, HA, HK1, HO_4, HB⟩ := hrel
    cases gk with
    | zero => exact absurd HA.out (by simp [matrix_reduce.l0])
    | succ k1 =>
     have H := HA.out
     clear HA
     simp only [matrix_reduce.l0] at H
     by_cases c6 : x21_1 < (l0.length : Int)
     ·rw [if_pos c6] at H
      have c6b0 : decide (x21_1 < (l0.length : Int)) = true := decide_eq_true c6
      clear c6
      by_cases c7 : 0 ≤ x21_1
      ·rw [if_pos c7] at H
       have c7b0 : decide (0 ≤ x21_1) = true := decide_eq_true c7
       clear c7
       by_cases c8 : x21_1 < (l0.length : Int)
       ·rw [if_pos c8] at H
        have c8b0 : decide (x21_1 < (l0.length : Int)) = true := decide_eq_true c8
        clear c8
        by_cases c9 : 0 ≤ ((rd_L1 l0 x21_1).length : Int)
        ·rw [if_pos c9] at H
         have c9b0 := eq_true c9
         have c9b1 : decide (0 ≤ ((rd_L1 l0 x21_1).length : Int)) = true := decide_eq_true c9
         clear c9
         by_cases c10 : (((rd_L1 l0 x21_1).length : Int) : Int).toNat ≤ 281474976710656
         ·rw [if_pos c10] at H
          have c10b0 := eq_true c10
          have c10b1 : decide ((((rd_L1 l0 x21_1).length : Int) : Int).toNat ≤ 281474976710656) = true := decide_eq_true c10
          clear c10
          obtain ⟨y106, hy106⟩ : ∃ y_ : List Int, y_ = (List.replicate (((rd_L1 l0 x21_1).length : Int) : Int).toNat 0) := ⟨_, rfl⟩
          replace H : (if x21_1 < (x4_1.length : Int) then ((copyL (x4_1.set (x21_1 : Int).toNat y106) l0 x21_1).bind fun t110 => (matrix_reduce.l0 k1 l0 t110 (l0.length : Int) (wrap64 (x21_1 + 1)))) else (none)) = some (r1, r2) := by first | (rw [hy106]; with_reducible exact H) | (have H2_ := (Option.bind_some _ _).symm.trans H; rw [hy106]; with_reducible exact H2_) | (have H2_ := (Option.bind_some _ _).symm.trans H; with_reducible exact H2_) | with_reducible exact H | (rw [hy106]; exact H) | exact H
          have Ny106 := Aside0.mk hy106
          clear hy106
          by_cases c11 : x21_1 < (x4_1.length : Int)
          ·rw [if_pos c11] at H
           have c11b0 : decide (x21_1 < (x4_1.length : Int)) = true := decide_eq_true c11
           clear c11
           obtain ⟨y109, hy109⟩ : ∃ y_ : List (List Int), y_ = (x4_1.set (x21_1 : Int).toNat y106) := ⟨_, rfl⟩
           replace H : ((copyL y109 l0 x21_1).bind fun t110 => (matrix_reduce.l0 k1 l0 t110 (l0.length : Int) (wrap64 (x21_1 + 1)))) = some (r1, r2) := by first | (rw [hy109]; with_reducible exact H) | (have H2_ := (Option.bind_some _ _).symm.trans H; rw [hy109]; with_reducible exact H2_) | (have H2_ := (Option.bind_some _ _).symm.trans H; with_reducible exact H2_) | with_reducible exact H | (rw [hy109]; exact H) | exact H
           have Ny109 := Aside0.mk hy109
           clear hy109
           replace H := Option.bind_eq_some_iff.mp H
           obtain ⟨t110, A130, H⟩ := H
           replace H : (matrix_reduce.l0 k1 l0 t110 (l0.length : Int) (wrap64 (x21_1 + 1))) = some (r1, r2) := H
           have A13 := Aside0.mk A130
           clear A130
           have H' := Aside0.mk H
           clear H
           have p105 : 0 ≤ (x21_1 : Int) := of_decide_eq_true (by first | (with_reducible assumption) | assumption)
           have q105 : x21_1 < (l0.length : Int) := of_decide_eq_true (by first | (with_reducible assumption) | assumption)
           obtain ⟨ad105, A105_0, c105_0, e105, hx105_0, hl105_0, hi105_0⟩ := at_L1 HR0.out x21_1 p105 q105
           cases e105
           replace hx105_0 := (HB.out.cell (World.block_lt_of_cell? w _ hx105_0)).trans hx105_0
           have HR105_0 := Aside0.mk hi105_0
           have HC105_0 := Aside0.mk hl105_0
           clear hi105_0 hl105_0
           replace p105 := eq_true p105
           replace q105 := eq_true q105
           try go_wp2_with (first | ((with_reducible refine gate_dst (N := 31) rfl ?_); refine Kd.R_make (Kd.int .u8) _ 5 rfl (N := 31) rfl 43 _ _ rfl ((rd_L1 l0 x21_1).length : Int) rfl rfl Tryd.underlying43 (.int .u8 0) 1 info5 rfl (by decide) (by omega) 0 (ok := fun _ => True) (okp := fun _ => True) rfl (fun _ hk => hk) trivial (of_decide_eq_true (by first | (with_reducible assumption) | assumption)) (Nat.le_trans (Nat.mul_le_mul_right _ (of_decide_eq_true (by first | (with_reducible assumption) | assumption) : ((rd_L1 l0 x21_1).length : Int).toNat ≤ 281474976710656)) (by omega)) (Below.refl _ _) (Nat.le_refl _) ?_; intro v107 w14 ho15 hb hg_ hnew_; clear hg_ hnew_; (first | rw [← Ny106.out] at ho15 | (simp only [Int.reduceToNat] at ho15; rw [← Ny106.out] at ho15)); have n0_ := Aside0.mk (Kd.S_elder' (by (with_reducible repeat (first | apply Kd.S_alloc | apply Kd.S_drewN | apply Kd.S_drew)); exact HO_4.out) (Kd.R_base ho15) hb); have n1_ := Aside0.mk (Kd.R_lower ho15 (below_size (by repeat (first | (with_reducible first | exact HB.out | apply below_alloc | apply pw_below_drewN | apply below_drew1) | exact HB.out)))); have n2_ := Aside0.mk (below_step (by repeat (first | (with_reducible first | exact HB.out | apply below_alloc | apply pw_below_drewN | apply below_drew1) | exact HB.out)) hb); clear HO_4; clear HB; have HO_4 := n0_; have HO108 := n1_; have HB := n2_; clear n0_ n1_ n2_; clear hb ho15; have p12 : 0 ≤ (x21_1 : Int) := of_decide_eq_true (by first | (with_reducible assumption) | assumption); have q12 : (x21_1 : Int) < ((x4_1.length : Int) : Int) := of_decide_eq_true (by first | (with_reducible assumption) | assumption); obtain ⟨go12, co12, eo12, gb12, gl12, cl12, HG12⟩ := Kd.S_form HO_4.out (by omega); (first | cases eo12 | (injection eo12 with ea_ en_ ec_; (first | subst ea_ | (injection ea_ with ea_; subst ea_)); subst ec_; clear en_)); have GB12 := Aside0.mk gb12; have GG12 := Aside0.mk HG12; clear gb12 gl12 HG12; obtain ⟨_, ce12, hcl12, hM12, hcc12, hfr12, _, _⟩ := Kd.S_elem HO_4.out [] (x21_1 : Int) p12 q12; obtain ⟨ve12_0, rfl, ge12_0⟩ := hM12; have hx12_0 := hcc12 0 _ rfl; have hf12_0 := hfr12 0; (try simp only [show ((Kd.slice 5 (Kd.int .u8))).sz = 1 from rfl, Nat.mul_one, Nat.add_zero] at hx12_0); (try simp only [show ((Kd.slice 5 (Kd.int .u8))).sz = 1 from rfl, Nat.mul_one, Nat.add_zero] at hf12_0); clear hcl12 hcc12 hfr12; (try clear hM12); replace p12 := eq_true p12; replace q12 := eq_true q12; obtain ⟨Ao18, co18, eo18⟩ := Kd.R_slice HO108.out; subst eo18; have n_ := Aside0.mk (Kd.S_mono (ok' := (fun k_ => some k_ ≠ (.slice Ao18 y106.length co18 : Value).ownBlock)) HO_4.out (fun k_ hk => hk.2)); clear HO_4; have HO_4 := n_; clear n_; have HX16 := Aside0.mk (show Kd.S (Kd.slice 5 (Kd.int .u8)) 43 w14 w.heap.size (fun k_ => ((fun _ => True)) k_ ∧ ¬ ((fun k_ => some k_ = (.slice Ao18 y106.length co18 : Value).ownBlock)) k_) (.slice (some ⟨go12, 0, none⟩) x4_1.length co12) x4_1 from (by (with_reducible repeat (first | apply Kd.S_alloc | apply Kd.S_drewN | apply Kd.S_drew)); exact Kd.S_mono HO_4.out (fun k_ hk => ⟨trivial, fun e_ => hk e_⟩))); obtain ⟨oki16, ce16, hcl16, hM16, hcc16, hfr16, hoki16, hH16⟩ := Kd.S_elem HX16.out [] (x21_1 : Int) (of_decide_eq_true (by first | (with_reducible assumption) | assumption)) (by have h_ : (x21_1 : Int) < ((x4_1.length : Int) : Int) := of_decide_eq_true (by first | (with_reducible assumption) | assumption); first | exact h_ | (have e_ := (Kd.S_reads' HO_4.out).1; omega) | simpa using h_); obtain ⟨ve16_0, rfl, ge16_0⟩ := hM16; have HP16 := Kd.S_seg hH16 (of_decide_eq_true (by first | (with_reducible assumption) | assumption)) (by have h_ : (x21_1 : Int) < ((x4_1.length : Int) : Int) := of_decide_eq_true (by first | (with_reducible assumption) | assumption); first | exact h_ | (have e_ := (Kd.S_reads' HO_4.out).1; omega) | simpa using h_) (seg := [.slice Ao18 y106.length co18]) (j := 0) (show 1 ≤ 1 from by decide) (x' := y106) (Kd.M_row (Kd.R_mono (Kd.R_tight rfl (Kd.R_mono (ok' := fun k_ => ((fun _ => True)) k_ ∧ k_ ≠ go12) (Kd.R_apart' (HO108.out) (Kd.S_typed HO_4.out) (by decide)) (fun k_ hk => ⟨trivial, fun e_ => (hk.2) (by rw [e_]; rfl)⟩))) (fun _ h_ => Or.inr (h_)))) (fun _ hk => hk) (fun k_ hk_ => ((Kd.R_mono (ok' := fun k_ => ((fun _ => True)) k_ ∧ k_ ≠ go12) (Kd.R_apart' (HO108.out) (Kd.S_typed HO_4.out) (by decide)) (fun k_ hk => ⟨trivial, fun e_ => (hk.2) (by rw [e_]; rfl)⟩))).1 k_ hk_.symm); have hx16_0 := hcc16 0 _ rfl; (try simp only [show ((Kd.slice 5 (Kd.int .u8))).sz = 1 from rfl, Nat.mul_one, Nat.add_zero] at hx16_0); have hf16_0 := hfr16 0; (try simp only [show ((Kd.slice 5 (Kd.int .u8))).sz = 1 from rfl, Nat.mul_one, Nat.add_zero] at hf16_0); clear hcl16 hcc16 hfr16 hoki16 hH16; (try clear hM16); (try simp only [show ((Kd.slice 5 (Kd.int .u8))).sz = 1 from rfl, Nat.mul_one, Nat.add_zero] at HP16)) | ((with_reducible refine gate_store (t := 43) (p := 32) rfl ?_); refine store_event (t := 43) (p := 32) (v := ?vo_w17) (w1 := (w14.setCell ⟨go12, (x21_1 : Int).toNat, none⟩ (.slice Ao18 y106.length co18))) ?hg ?ho ?hn ?hr ?_; (case ho => rfl); (case hg => rfl); (case hn => rfl); (case hr => first | (go_simp; done) | (go_simp; rfl)); intro w17 hw; have hg : w14.grownBy w17 (some go12) := (by rw [hw]; exact HP16.2); have hp_ : Kd.S (Kd.slice 5 (Kd.int .u8)) 43 w17 w.heap.size (fun _ => True) (.slice (some ⟨go12, 0, none⟩) x4_1.length co12) y109 := (by rw [hw, Ny109.out]; exact HP16.1); clear HP16; have n0_ := Aside0.mk (hp_); have n1_ := Aside0.mk ((by rw [hw]; exact below_set (HB.out) GB12.out : Below w.heap.size w w17)); clear HO_4; clear HB; clear HO108; have HO_4 := n0_; have HB := n1_; clear n0_ n1_; clear hg hw hp_) | (go_step3))
           refine copy_step_ (w := w) (by (with_reducible repeat (first | apply Kd.S_alloc | apply Kd.S_drewN | apply Kd.S_drew)); exact HO_4.out) (by repeat (first | (with_reducible first | exact HB.out | apply below_alloc | apply pw_below_drewN | apply below_drew1) | exact HB.out)) (by repeat (first | exact (Kd.C_below HR0.out HB.out) | (with_reducible refine Kd.C_alloc ?_ _) | (with_reducible refine Kd.C_drewN ?_ _) | (with_reducible refine Kd.C_drew ?_))) A13.out (fun _ _ _ _ _ h => h) ?_
           intro zz0_20 zz1_20 zz2_20 zz3_20 zz4_20 zz5_20 zz6_20 zz7_20 zz8_20 w19 hp_ hb
           have n0_ := Aside0.mk (hp_)
           have n1_ := Aside0.mk (hb)
           clear HO_4
           clear HB
           have HO_4 := n0_
           have HB := n1_
           clear n0_ n1_
           clear hp_ hb
           try go_wp2_with (first | (go_step3))
           go_roundg k1
           case measure => have := HK1.out; omega
           case rel => exact ⟨(t110), (wrap64 (x21_1 + 1)), (by first | rfl | (simp; done) | (simp [*]; done)), H', ⟨by have := HK1.out; omega⟩, ⟨by (with_reducible repeat (first | apply Kd.S_alloc | apply Kd.S_drewN | apply Kd.S_drew)); exact HO_4.out⟩, ⟨by repeat (first | (with_reducible first | exact HB.out | apply below_alloc | apply pw_below_drewN | apply below_drew1) | exact HB.out)⟩⟩
          ·rw [if_neg c11] at H
           exact absurd H (by simp)
         ·rw [if_neg c10] at H
          exact absurd H (by simp)
        ·rw [if_neg c9] at H
         exact absurd H (by simp)
       ·rw [if_neg c8] at H
        exact absurd H (by simp)
      ·rw [if_neg c7] at H
       exact absurd H (by simp)
     ·rw [if_neg c6] at H
      have c6b0 : decide (x21_1 < (l0.length : Int)) = false := decide_eq_false c6
      clear c6
      replace H := Option.bind_eq_some_iff.mp H
      obtain ⟨t111, A210, H⟩ := H
      replace H : (matrix_reduce.l1 k1 x4_1 ([] : List Int) t111 0) = some (r1, r2) := H
      have A21 := Aside0.mk A210
      clear A210
      have H' := Aside0.mk H
      clear H
      go_wp2_with (first | ((with_reducible refine gate_callee (f := 36) rfl ?_); refine goesL_ (some 44) rfl rfl Tryd.func36 (by kernel_rfl) rfl #[.slice A0 l0.length c0] rfl (by (try simp only [List.map_toArray, List.map_cons, List.map_nil]); first | done | rfl | (simp only [List.length_drop, List.length_take]; rfl)) ?_; (with_reducible refine (matrix_columns.calls _ _ l0 t111 _ ?side1 ?side2 A21.out).mono ?_); (case side1 => repeat (first | exact (Kd.C_below HR0.out HB.out) | (with_reducible refine Kd.C_alloc ?_ _) | (with_reducible refine Kd.C_drewN ?_ _) | (with_reducible refine Kd.C_drew ?_))); (case side2 => exact HC0.out); rintro e w' ⟨rfl, ⟨nd, rfl⟩⟩; refine ⟨_, rfl, ?_⟩) | (go_step3))
      go_loopg [6, 45] k1 (fun kq v6 v45 w' => ∃ (x4_2 : List (List Int)) (x6_2 : List Int) (x45_2 : Int), v45 = .int .i64 x45_2 ∧ Aside0 (matrix_reduce.l1 kq x4_2 x6_2 t111 x45_2 = some (r1, r2)) ∧ Aside0 (kq ≤ k1) ∧ Aside0 (Kd.S (Kd.slice 5 (Kd.int .u8)) 43 w' w.heap.size (fun _ => True) v103 x4_2) ∧ Aside0 (Kd.R (Kd.int .i64) 3 w' w.heap.size (fun _ => True) v6 x6_2) ∧ Aside0 (Below w.heap.size w w'))
      case atStart => exact ⟨(x4_1), (([] : List Int)), (0), (by first | rfl | (simp; done) | (simp [*]; done)), H', ⟨Nat.le_refl _⟩, ⟨by (with_reducible repeat (first | apply Kd.S_alloc | apply Kd.S_drewN | apply Kd.S_drew)); exact HO_4.out⟩, ⟨by first | exact Kd.R_nil _ _ _ _ _ | exact Kd.N_nil _ _ _ _ _ | exact Kd.V_nil _ _ _ _ _ | exact Kd.Q_nil _ _ _ _ _ | exact Kd.S_nil _ _ _ _ _⟩, ⟨by repeat (first | (with_reducible first | exact HB.out | apply below_alloc | apply pw_below_drewN | apply below_drew1) | exact HB.out)⟩⟩
      case round =>
       clear H'
       try clear c1
       try clear p1
       try clear q1
       try clear hx1
       try clear hf1
       try clear c2
       try clear c2b0
       try clear c2b1
       try clear p2
       try clear c3
       try clear c3b0
       try clear c3b1
       try clear p3
       try clear c6
       try clear c6b0
       try clear p6
       try clear c7
       try clear c7b0
       try clear c8
       try clear c8b0
       try clear c9
       try clear c9b0
       try clear c9b1
       try clear c10
       try clear c10b0
       try clear c10b1
       try clear p10
       try clear q10
       try clear hx10
       try clear c11
       try clear c11b0
       try clear c12
       try clear p12
       try clear q12
       try clear hx12
       try clear hf12
       try clear c16
       try clear hx16
       try clear hf16
       try clear hx105_0
       try clear hx12_0
       try clear hx16_0
       try clear p105
       try clear p12
       try clear p2
       try clear p3
       try clear q105
       try clear q12
       obtain ⟨x4_2, x6_2, x45_2, rfl, HA, HK2, HO_4, HO_6, HB⟩ := hrel
       cases gk with
       | zero => exact absurd HA.out (by simp [matrix_reduce.l1])
       | succ k2 =>
        have H := HA.out
        clear HA
        simp only [matrix_reduce.l1] at H
        by_cases c22 : x45_2 < t111
        ·rw [if_pos c22] at H
         have c22b0 : decide (x45_2 < t111) = true := decide_eq_true c22
         clear c22
         have H' := Aside0.mk H
         clear H
         obtain ⟨Ao23, co23, eo23⟩ := Kd.R_slice HO_6.out
         subst eo23
         go_wp2_with (first | (go_step3))
         go_loopg [6, 9] k2 (fun kq v6 v9 w' => ∃ (x4_3 : List (List Int)) (x6_3 : List Int) (x9_3 : Int), v9 = .int .i64 x9_3 ∧ Aside0 (matrix_reduce.l2 kq x4_3 x6_3 x45_2 (x6_2.length : Int) x9_3 t111 x45_2 = some (r1, r2)) ∧ Aside0 (kq ≤ k2) ∧ Aside0 (Kd.S (Kd.slice 5 (Kd.int .u8)) 43 w' w.heap.size (fun _ => True) v103 x4_3) ∧ Aside0 (Kd.R (Kd.int .i64) 3 w' w.heap.size (fun _ => True) v6 x6_3) ∧ Aside0 (Below w.heap.size w w'))
         case atStart => exact ⟨(x4_2), (x6_2), ((x6_2.length : Int)), (by first | rfl | (simp; done) | (simp [*]; done)), H', ⟨Nat.le_refl _⟩, ⟨by (with_reducible repeat (first | apply Kd.S_alloc | apply Kd.S_drewN | apply Kd.S_drew)); exact HO_4.out⟩, ⟨by (with_reducible repeat (first | apply Kd.R_alloc | apply Kd.R_drewN | apply Kd.R_drew)); exact HO_6.out⟩, ⟨by repeat (first | (with_reducible first | exact HB.out | apply below_alloc | apply pw_below_drewN | apply below_drew1) | exact HB.out)⟩⟩
         case round =>
          clear H'
          try clear c1
          try clear p1
          try clear q1
          try clear hx1
          try clear hf1
          try clear c2
          try clear c2b0
          try clear c2b1
          try clear p2
          try clear c3
          try clear c3b0
          try clear c3b1
          try clear p3
          try clear c6
          try clear c6b0
          try clear p6
          try clear c7
          try clear c7b0
          try clear c8
          try clear c8b0
          try clear c9
          try clear c9b0
          try clear c9b1
          try clear c10
          try clear c10b0
          try clear c10b1
          try clear p10
          try clear q10
          try clear hx10
          try clear c11
          try clear c11b0
          try clear c12
          try clear p12
          try clear q12
          try clear hx12
          try clear hf12
          try clear c16
          try clear hx16
          try clear hf16
          try clear c22
          try clear c22b0
          try clear hx105_0
          try clear hx12_0
          try clear hx16_0
          try clear p1
          try clear p10
          try clear p105
          try clear p12
          try clear p2
          try clear p3
          try clear p6
          try clear q1
          try clear q10
          try clear q105
          try clear q12
          obtain ⟨x4_3, x6_3, x9_3, rfl, HA, HK3, HO_4, HO_6, HB⟩ := hrel
          cases gk with
          | zero => exact absurd HA.out (by simp [matrix_reduce.l2])
          | succ k3 =>
           have H := HA.out
           clear HA
           simp only [matrix_reduce.l2] at H
           by_cases c24 : x9_3 < (x4_3.length : Int)
           ·rw [if_pos c24] at H
            have c24b0 : decide (x9_3 < (x4_3.length : Int)) = true := decide_eq_true c24
            clear c24
            by_cases c25 : 0 ≤ x9_3
            ·rw [if_pos c25] at H
             have c25b0 : decide (0 ≤ x9_3) = true := decide_eq_true c25
             clear c25
             by_cases c26 : 0 ≤ x45_2
             ·rw [if_pos c26] at H
              have c26b0 : decide (0 ≤ x45_2) = true := decide_eq_true c26
              clear c26
              by_cases c27 : x45_2 < ((rd_L1 x4_3 x9_3).length : Int)
              ·rw [if_pos c27] at H
               have c27b0 : decide (x45_2 < ((rd_L1 x4_3 x9_3).length : Int)) = true := decide_eq_true c27
               clear c27
               by_cases c28 : (rd (rd_L1 x4_3 x9_3) x45_2) = 0
               ·rw [if_pos c28] at H
                have c28b0 : ((rd (rd_L1 x4_3 x9_3) x45_2) == 0) = true := beq_iff_eq.mpr c28
                have c28b1 : ((rd (rd_L1 x4_3 x9_3) x45_2) != 0) = false := bne_eq_false_iff_eq.mpr c28
                clear c28
                have H' := Aside0.mk H
                clear H
                obtain ⟨Ao29, co29, eo29⟩ := Kd.S_slice HO_4.out
                subst eo29
                have p115 : 0 ≤ (x9_3 : Int) := of_decide_eq_true (by first | (with_reducible assumption) | assumption)
                have q115 : x9_3 < (x4_3.length : Int) := of_decide_eq_true (by first | (with_reducible assumption) | assumption)
                obtain ⟨ad115, A115_0, c115_0, e115, hx115_0, hl115_0, hi115_0⟩ := at_L1 (Kd.S_reads' HO_4.out).2.2 x9_3 p115 q115
                cases e115
                obtain ⟨ce115, hce115, hMe115, hcc115⟩ := Kd.S_get HO_4.out [] x9_3 p115 (by first | exact q115 | exact of_decide_eq_true (by first | (with_reducible assumption) | assumption) | (have e_ := (Kd.S_reads' HO_4.out).1; omega))
                obtain ⟨ve115_0, rfl, ge115_0⟩ := hMe115
                have hv115_0 := hcc115 0 _ rfl
                rw [Nat.add_zero, show ((Kd.slice 5 (Kd.int .u8))).sz = 1 from rfl, Nat.mul_one] at hv115_0
                replace hv115_0 := Option.some.inj (hv115_0.symm.trans hx115_0)
                rw [hv115_0] at ge115_0
                have HL115_0 := Aside0.mk (show Kd.R (Kd.int .u8) 5 _ _ _ _ (rd_L1 x4_3 x9_3) from ge115_0)
                clear hv115_0 ge115_0
                have HX115_0 := Aside0.mk hx115_0
                clear hcc115 hce115
                have HR115_0 := Aside0.mk hi115_0
                have HC115_0 := Aside0.mk hl115_0
                clear hi115_0 hl115_0
                replace p115 := eq_true p115
                replace q115 := eq_true q115
                have p116 : 0 ≤ (x45_2 : Int) := of_decide_eq_true (by first | (with_reducible assumption) | assumption)
                have q116 : x45_2 < ((rd_L1 x4_3 x9_3).length : Int) := of_decide_eq_true (by first | (with_reducible assumption) | assumption)
                obtain ⟨ad116, e116, hx116_0⟩ := Kd.at_int (by repeat (first | (with_reducible exact HR115_0.out) | (with_reducible refine Kd.C_alloc ?_ _) | (with_reducible refine Kd.C_drewN ?_ _) | (with_reducible refine Kd.C_drew ?_) | exact HR115_0.out)) x45_2 p116 q116
                cases e116
                replace p116 := eq_true p116
                replace q116 := eq_true q116
                go_wp2_with (first | (go_step3))
                go_roundg k3
                case measure => have := HK1.out; have := HK2.out; have := HK3.out; omega
                case rel => exact ⟨(x4_3), (x6_3), (wrap64 (x9_3 + 1)), (by first | rfl | (simp; done) | (simp [*]; done)), H', ⟨by have := HK1.out; have := HK2.out; have := HK3.out; omega⟩, ⟨by (with_reducible repeat (first | apply Kd.S_alloc | apply Kd.S_drewN | apply Kd.S_drew)); exact HO_4.out⟩, ⟨by (with_reducible repeat (first | apply Kd.R_alloc | apply Kd.R_drewN | apply Kd.R_drew)); exact HO_6.out⟩, ⟨by repeat (first | (with_reducible first | exact HB.out | apply below_alloc | apply pw_below_drewN | apply below_drew1) | exact HB.out)⟩⟩
               ·rw [if_neg c28] at H
                have c28b0 : ((rd (rd_L1 x4_3 x9_3) x45_2) == 0) = false := beq_eq_false_iff_ne.mpr c28
                have c28b1 : ((rd (rd_L1 x4_3 x9_3) x45_2) != 0) = true := bne_iff_ne.mpr c28
                replace H := Option.bind_eq_some_iff.mp H
                obtain ⟨t117, A300, H⟩ := H
                replace H : (if 0 ≤ (x6_2.length : Int) then (if (x6_2.length : Int) < (x4_3.length : Int) then (if x45_2 < ((rd_L1 t117 (x6_2.length : Int)).length : Int) then ((gf_Inv.f k3 (rd (rd_L1 t117 (x6_2.length : Int)) x45_2)).bind fun bt120 => (matrix_reduce.l3 k3 t117 x6_3 x45_2 (x6_2.length : Int) bt120.1 t111 x45_2 ((rd_L1 t117 (x6_2.length : Int)).length : Int) 0)) else (none)) else (none)) else (none)) = some (r1, r2) := H
                have A30 := Aside0.mk A300
                clear A300
                by_cases c31 : 0 ≤ (x6_2.length : Int)
                ·rw [if_pos c31] at H
                 have c31b0 : decide (0 ≤ (x6_2.length : Int)) = true := decide_eq_true c31
                 have c31b1 : decide (0 ≤ x6_2.length) = true := decide_eq_true (by omega)
                 clear c31
                 by_cases c32 : (x6_2.length : Int) < (x4_3.length : Int)
                 ·rw [if_pos c32] at H
                  have c32b0 : decide ((x6_2.length : Int) < (x4_3.length : Int)) = true := decide_eq_true c32
                  have c32b1 : decide (x6_2.length < x4_3.length) = true := decide_eq_true (Int.ofNat_lt.mp c32)
                  clear c32
                  by_cases c33 : x45_2 < ((rd_L1 t117 (x6_2.length : Int)).length : Int)
                  ·rw [if_pos c33] at H
                   have c33b0 : decide (x45_2 < ((rd_L1 t117 (x6_2.length : Int)).length : Int)) = true := decide_eq_true c33
                   clear c33
                   replace H := Option.bind_eq_some_iff.mp H
                   obtain ⟨⟨t120, t121⟩, A340, H⟩ := H
                   replace H : (matrix_reduce.l3 k3 t117 x6_3 x45_2 (x6_2.length : Int) t120 t111 x45_2 ((rd_L1 t117 (x6_2.length : Int)).length : Int) 0) = some (r1, r2) := H
                   have A34 := Aside0.mk A340
                   clear A340
                   have H' := Aside0.mk H
                   clear H
                   obtain ⟨Ao35, co35, eo35⟩ := Kd.S_slice HO_4.out
                   subst eo35
                   have p115 : 0 ≤ (x9_3 : Int) := of_decide_eq_true (by first | (with_reducible assumption) | assumption)
                   have q115 : x9_3 < (x4_3.length : Int) := of_decide_eq_true (by first | (with_reducible assumption) | assumption)
                   obtain ⟨ad115, A115_0, c115_0, e115, hx115_0, hl115_0, hi115_0⟩ := at_L1 (Kd.S_reads' HO_4.out).2.2 x9_3 p115 q115
                   cases e115
                   obtain ⟨ce115, hce115, hMe115, hcc115⟩ := Kd.S_get HO_4.out [] x9_3 p115 (by first | exact q115 | exact of_decide_eq_true (by first | (with_reducible assumption) | assumption) | (have e_ := (Kd.S_reads' HO_4.out).1; omega))
                   obtain ⟨ve115_0, rfl, ge115_0⟩ := hMe115
                   have hv115_0 := hcc115 0 _ rfl
                   rw [Nat.add_zero, show ((Kd.slice 5 (Kd.int .u8))).sz = 1 from rfl, Nat.mul_one] at hv115_0
                   replace hv115_0 := Option.some.inj (hv115_0.symm.trans hx115_0)
                   rw [hv115_0] at ge115_0
                   have HL115_0 := Aside0.mk (show Kd.R (Kd.int .u8) 5 _ _ _ _ (rd_L1 x4_3 x9_3) from ge115_0)
                   clear hv115_0 ge115_0
                   have HX115_0 := Aside0.mk hx115_0
                   clear hcc115 hce115
                   have HR115_0 := Aside0.mk hi115_0
                   have HC115_0 := Aside0.mk hl115_0
                   clear hi115_0 hl115_0
                   replace p115 := eq_true p115
                   replace q115 := eq_true q115
                   have p116 : 0 ≤ (x45_2 : Int) := of_decide_eq_true (by first | (with_reducible assumption) | assumption)
                   have q116 : x45_2 < ((rd_L1 x4_3 x9_3).length : Int) := of_decide_eq_true (by first | (with_reducible assumption) | assumption)
                   obtain ⟨ad116, e116, hx116_0⟩ := Kd.at_int (by repeat (first | (with_reducible exact HR115_0.out) | (with_reducible refine Kd.C_alloc ?_ _) | (with_reducible refine Kd.C_drewN ?_ _) | (with_reducible refine Kd.C_drew ?_) | exact HR115_0.out)) x45_2 p116 q116
                   cases e116
                   replace p116 := eq_true p116
                   replace q116 := eq_true q116
                   try go_wp2_with (first | (go_step3))
                   refine swap_step (w := w) (by (with_reducible repeat (first | apply Kd.S_alloc | apply Kd.S_drewN | apply Kd.S_drew)); exact HO_4.out) (by repeat (first | (with_reducible first | exact HB.out | apply below_alloc | apply pw_below_drewN | apply below_drew1) | exact HB.out)) A30.out (fun _ _ _ _ _ h => h) ?_
                   intro zz0_37 zz1_37 zz2_37 zz3_37 zz4_37 zz5_37 zz6_37 zz7_37 zz8_37 zz9_37 zz10_37 zz11_37 zz12_37 zz13_37 w36 hp_ hg hb
                   have n0_ := Aside0.mk (hp_)
                   have n1_ := Aside0.mk (Kd.R_over' (v := (.slice (some ad115) x4_3.length co35)) (by (with_reducible repeat (first | apply Kd.R_alloc | apply Kd.R_drewN | apply Kd.R_drew)); exact HO_6.out) (Kd.S_typed (by (with_reducible repeat (first | apply Kd.S_alloc | apply Kd.S_drewN | apply Kd.S_drew)); exact HO_4.out)) (by decide) hg)
                   have n2_ := Aside0.mk (hb)
                   clear HO_4
                   clear HO_6
                   clear HB
                   have HO_4 := n0_
                   have HO_6 := n1_
                   have HB := n2_
                   clear n0_ n1_ n2_
                   clear hp_ hb hg
                   have p118 : 0 ≤ ((x6_2.length : Int) : Int) := of_decide_eq_true (by first | (with_reducible assumption) | assumption)
                   have q118 : (x6_2.length : Int) < (t117.length : Int) := (by have h_ : ((x6_2.length : Int) : Int) < ((x4_3.length : Int) : Int) := of_decide_eq_true (by first | (with_reducible assumption) | assumption); have e_ := (Kd.S_reads' HO_4.out).1; omega)
                   have ql118 : (((x6_2.length : Int) : Int) < ((x4_3.length : Int) : Int)) = True := eq_true (of_decide_eq_true (by first | (with_reducible assumption) | assumption))
                   obtain ⟨ad118, A118_0, c118_0, e118, hx118_0, hl118_0, hi118_0⟩ := at_L1 (Kd.S_reads' HO_4.out).2.2 (x6_2.length : Int) p118 q118
                   obtain rfl : ad115 = ad118 := (by injection e118)
                   obtain ⟨ce118, hce118, hMe118, hcc118⟩ := Kd.S_get HO_4.out [] (x6_2.length : Int) p118 (by first | exact q118 | exact of_decide_eq_true (by first | (with_reducible assumption) | assumption) | (have e_ := (Kd.S_reads' HO_4.out).1; omega))
                   obtain ⟨ve118_0, rfl, ge118_0⟩ := hMe118
                   have hv118_0 := hcc118 0 _ rfl
                   rw [Nat.add_zero, show ((Kd.slice 5 (Kd.int .u8))).sz = 1 from rfl, Nat.mul_one] at hv118_0
                   replace hv118_0 := Option.some.inj (hv118_0.symm.trans hx118_0)
                   rw [hv118_0] at ge118_0
                   have HL118_0 := Aside0.mk (show Kd.R (Kd.int .u8) 5 _ _ _ _ (rd_L1 t117 (x6_2.length : Int)) from ge118_0)
                   clear hv118_0 ge118_0
                   have HX118_0 := Aside0.mk hx118_0
                   clear hcc118 hce118
                   have HR118_0 := Aside0.mk hi118_0
                   have HC118_0 := Aside0.mk hl118_0
                   clear hi118_0 hl118_0
                   (try simp only [Go.IntWalk.toNatUp] at hx118_0)
                   replace p118 := eq_true p118
                   replace q118 := eq_true q118
                   have p119 : 0 ≤ (x45_2 : Int) := of_decide_eq_true (by first | (with_reducible assumption) | assumption)
                   have q119 : x45_2 < ((rd_L1 t117 (x6_2.length : Int)).length : Int) := of_decide_eq_true (by first | (with_reducible assumption) | assumption)
                   obtain ⟨ad119, e119, hx119_0⟩ := Kd.at_int (by repeat (first | (with_reducible exact HR118_0.out) | (with_reducible refine Kd.C_alloc ?_ _) | (with_reducible refine Kd.C_drewN ?_ _) | (with_reducible refine Kd.C_drew ?_) | exact HR118_0.out)) x45_2 p119 q119
                   cases e119
                   replace p119 := eq_true p119
                   replace q119 := eq_true q119
                   try go_wp2_with (first | ((with_reducible refine gate_callee (f := 50) rfl ?_); refine goesL_ (some 87) rfl rfl Tryd.func50 (by kernel_rfl) rfl #[.int .u8 (rd (rd_L1 t117 (x6_2.length : Int)) x45_2)] rfl (by (try simp only [List.map_toArray, List.map_cons, List.map_nil]); first | done | rfl | (simp only [List.length_drop, List.length_take]; rfl)) ?_; (with_reducible refine (gf_Inv.calls k3 (rd (rd_L1 t117 (x6_2.length : Int)) x45_2) t120 t121 _ ?side1 A34.out).mono ?_); (case side1 => first | (with_reducible exact HG.out) | (with_reducible exact HighIn.drewN HG.out _) | exact HighIn.below HG.out (by repeat (first | (with_reducible first | exact HB.out | apply below_alloc | apply pw_below_drewN | apply below_drew1) | exact HB.out)) | ((repeat (first | (with_reducible exact HG.out) | (with_reducible apply HighIn.drewN) | (with_reducible apply HighIn.drew) | (with_reducible apply HighIn.alloc))); done)); rintro e w' ⟨rfl, ⟨nd, rfl⟩⟩; refine ⟨_, rfl, ?_⟩; have p122 : 0 ≤ ((x6_2.length : Int) : Int) := of_decide_eq_true (by first | (with_reducible assumption) | assumption); have q122 : (x6_2.length : Int) < (t117.length : Int) := (by have h_ : ((x6_2.length : Int) : Int) < ((x4_3.length : Int) : Int) := of_decide_eq_true (by first | (with_reducible assumption) | assumption); have e_ := (Kd.S_reads' HO_4.out).1; omega); have ql122 : (((x6_2.length : Int) : Int) < ((x4_3.length : Int) : Int)) = True := eq_true (of_decide_eq_true (by first | (with_reducible assumption) | assumption)); obtain ⟨ad122, A122_0, c122_0, e122, hx122_0, hl122_0, hi122_0⟩ := at_L1 (Kd.S_reads' HO_4.out).2.2 (x6_2.length : Int) p122 q122; obtain rfl : ad115 = ad122 := (by injection e122); obtain ⟨ce122, hce122, hMe122, hcc122⟩ := Kd.S_get HO_4.out [] (x6_2.length : Int) p122 (by first | exact q122 | exact of_decide_eq_true (by first | (with_reducible assumption) | assumption) | (have e_ := (Kd.S_reads' HO_4.out).1; omega)); obtain ⟨ve122_0, rfl, ge122_0⟩ := hMe122; have hv122_0 := hcc122 0 _ rfl; rw [Nat.add_zero, show ((Kd.slice 5 (Kd.int .u8))).sz = 1 from rfl, Nat.mul_one] at hv122_0; replace hv122_0 := Option.some.inj (hv122_0.symm.trans hx122_0); rw [hv122_0] at ge122_0; have HL122_0 := Aside0.mk (show Kd.R (Kd.int .u8) 5 _ _ _ _ (rd_L1 t117 (x6_2.length : Int)) from ge122_0); clear hv122_0 ge122_0; have HX122_0 := Aside0.mk hx122_0; clear hcc122 hce122; have HR122_0 := Aside0.mk hi122_0; have HC122_0 := Aside0.mk hl122_0; clear hi122_0 hl122_0; (try simp only [Go.IntWalk.toNatUp] at hx122_0); replace p122 := eq_true p122; replace q122 := eq_true q122; have ea_ := Option.some.inj (hx118_0.symm.trans hx122_0); injection ea_ with ea_ en_ ec_; subst ea_; subst ec_; clear en_) | (go_step3))
                   go_loopg [95] k3 (fun kq v95 w' => ∃ (x4_4 : List (List Int)) (x95_4 : Int), v95 = .int .i64 x95_4 ∧ Aside0 (matrix_reduce.l3 kq x4_4 x6_3 x45_2 (x6_2.length : Int) t120 t111 x45_2 ((rd_L1 t117 (x6_2.length : Int)).length : Int) x95_4 = some (r1, r2)) ∧ Aside0 (kq ≤ k3) ∧ Aside0 (Kd.S (Kd.slice 5 (Kd.int .u8)) 43 w' w.heap.size (fun _ => True) (.slice (some ad115) x4_3.length co35) x4_4) ∧ Aside0 (Kd.R (Kd.int .i64) 3 w' w.heap.size (fun _ => True) u6 x6_3) ∧ Aside0 (Below w.heap.size w w'))
                   case atStart => exact ⟨(t117), (0), (by first | rfl | (simp; done) | (simp [*]; done)), H', ⟨Nat.le_refl _⟩, ⟨by (with_reducible repeat (first | apply Kd.S_alloc | apply Kd.S_drewN | apply Kd.S_drew)); exact HO_4.out⟩, ⟨by (with_reducible repeat (first | apply Kd.R_alloc | apply Kd.R_drewN | apply Kd.R_drew)); exact HO_6.out⟩, ⟨by repeat (first | (with_reducible first | exact HB.out | apply below_alloc | apply pw_below_drewN | apply below_drew1) | exact HB.out)⟩⟩
                   case round =>
                    clear H'
                    try clear c1
                    try clear p1
                    try clear q1
                    try clear hx1
                    try clear hf1
                    try clear c2
                    try clear c2b0
                    try clear c2b1
                    try clear p2
                    try clear c3
                    try clear c3b0
                    try clear c3b1
                    try clear p3
                    try clear c5
                    try clear c6
                    try clear c6b0
                    try clear p6
                    try clear c7
                    try clear c7b0
                    try clear c8
                    try clear c8b0
                    try clear c9
                    try clear c9b0
                    try clear c9b1
                    try clear c10
                    try clear c10b0
                    try clear c10b1
                    try clear p10
                    try clear q10
                    try clear hx10
                    try clear c11
                    try clear c11b0
                    try clear p11
                    try clear q11
                    try clear hx11
                    try clear c12
                    try clear p12
                    try clear q12
                    try clear hx12
                    try clear hf12
                    try clear c16
                    try clear hx16
                    try clear hf16
                    try clear c22
                    try clear c22b0
                    try clear c24
                    try clear c24b0
                    try clear c25
                    try clear c25b0
                    try clear c26
                    try clear c26b0
                    try clear c27
                    try clear c27b0
                    try clear c28
                    try clear c28b0
                    try clear c28b1
                    try clear c31
                    try clear c31b0
                    try clear c31b1
                    try clear c32
                    try clear c32b0
                    try clear c32b1
                    try clear c33
                    try clear c33b0
                    try clear c36
                    try clear hx105_0
                    try clear hx115_0
                    try clear hx116_0
                    try clear hx118_0
                    try clear hx119_0
                    try clear hx122_0
                    try clear hx12_0
                    try clear hx16_0
                    try clear p1
                    try clear p10
                    try clear p105
                    try clear p115
                    try clear p116
                    try clear p118
                    try clear p119
                    try clear p12
                    try clear p122
                    try clear p2
                    try clear p3
                    try clear p6
                    try clear q1
                    try clear q10
                    try clear q105
                    try clear q115
                    try clear q116
                    try clear q118
                    try clear q119
                    try clear q12
                    try clear q122
                    obtain ⟨x4_4, x95_4, rfl, HA, HK4, HO_4, HO_6, HB⟩ := hrel
                    have hl4_4 := (Kd.S_reads' HO_4.out).1
                    rw [hl4_4] at HO_4
                    (try simp only [hl4_4])
                    (try simp only [hl4_4] at HO_6)
                    cases gk with
                    | zero => exact absurd HA.out (by simp [matrix_reduce.l3])
                    | succ k4 =>
                     have H := HA.out
                     clear HA
                     simp only [matrix_reduce.l3] at H
                     by_cases c38 : x95_4 < ((rd_L1 t117 (x6_2.length : Int)).length : Int)
                     ·rw [if_pos c38] at H
                      have c38b0 : decide (x95_4 < ((rd_L1 t117 (x6_2.length : Int)).length : Int)) = true := decide_eq_true c38
                      clear c38
                      by_cases c39 : 0 ≤ (x6_2.length : Int)
                      ·rw [if_pos c39] at H
                       have c39b0 : decide (0 ≤ (x6_2.length : Int)) = true := decide_eq_true c39
                       have c39b1 : decide (0 ≤ x6_2.length) = true := decide_eq_true (by omega)
                       clear c39
                       by_cases c40 : (x6_2.length : Int) < (x4_4.length : Int)
                       ·rw [if_pos c40] at H
                        have c40b0 : decide ((x6_2.length : Int) < (x4_4.length : Int)) = true := decide_eq_true c40
                        have c40b1 : decide (x6_2.length < x4_4.length) = true := decide_eq_true (Int.ofNat_lt.mp c40)
                        clear c40
                        by_cases c41 : 0 ≤ x95_4
                        ·rw [if_pos c41] at H
                         have c41b0 : decide (0 ≤ x95_4) = true := decide_eq_true c41
                         clear c41
                         by_cases c42 : x95_4 < ((rd_L1 x4_4 (x6_2.length : Int)).length : Int)
                         ·rw [if_pos c42] at H
                          have c42b0 : decide (x95_4 < ((rd_L1 x4_4 (x6_2.length : Int)).length : Int)) = true := decide_eq_true c42
                          clear c42
                          replace H := Option.bind_eq_some_iff.mp H
                          obtain ⟨t126, A430, H⟩ := H
                          replace H : (matrix_reduce.l3 k4 (x4_4.set ((x6_2.length : Int) : Int).toNat ((rd_L1 x4_4 (x6_2.length : Int)).set (x95_4 : Int).toNat t126)) x6_3 x45_2 (x6_2.length : Int) t120 t111 x45_2 ((rd_L1 t117 (x6_2.length : Int)).length : Int) (wrap64 (x95_4 + 1))) = some (r1, r2) := H
                          have A43 := Aside0.mk A430
                          clear A430
                          obtain ⟨y127, hy127⟩ : ∃ y_ : List Int, y_ = ((rd_L1 x4_4 (x6_2.length : Int)).set (x95_4 : Int).toNat t126) := ⟨_, rfl⟩
                          replace H : (matrix_reduce.l3 k4 (x4_4.set ((x6_2.length : Int) : Int).toNat y127) x6_3 x45_2 (x6_2.length : Int) t120 t111 x45_2 ((rd_L1 t117 (x6_2.length : Int)).length : Int) (wrap64 (x95_4 + 1))) = some (r1, r2) := by first | (rw [hy127]; with_reducible exact H) | (have H2_ := (Option.bind_some _ _).symm.trans H; rw [hy127]; with_reducible exact H2_) | (have H2_ := (Option.bind_some _ _).symm.trans H; with_reducible exact H2_) | with_reducible exact H | (rw [hy127]; exact H) | exact H
                          have Ny127 := Aside0.mk hy127
                          clear hy127
                          obtain ⟨y129, hy129⟩ : ∃ y_ : List (List Int), y_ = (x4_4.set ((x6_2.length : Int) : Int).toNat y127) := ⟨_, rfl⟩
                          replace H : (matrix_reduce.l3 k4 y129 x6_3 x45_2 (x6_2.length : Int) t120 t111 x45_2 ((rd_L1 t117 (x6_2.length : Int)).length : Int) (wrap64 (x95_4 + 1))) = some (r1, r2) := by first | (rw [hy129]; with_reducible exact H) | (have H2_ := (Option.bind_some _ _).symm.trans H; rw [hy129]; with_reducible exact H2_) | (have H2_ := (Option.bind_some _ _).symm.trans H; with_reducible exact H2_) | with_reducible exact H | (rw [hy129]; exact H) | exact H
                          have Ny129 := Aside0.mk hy129
                          clear hy129
                          have H' := Aside0.mk H
                          clear H
                          try go_wp2_with (first | (go_step3))
                          have n0_ := Aside0.mk (Kd.S_drew HO_4.out)
                          have n1_ := Aside0.mk (Kd.R_drew HO_6.out)
                          have n2_ := Aside0.mk (below_drew1 HB.out)
                          clear HO_4
                          clear HO_6
                          clear HB
                          have HO_4 := n0_
                          have HO_6 := n1_
                          have HB := n2_
                          clear n0_ n1_ n2_
                          have p123 : 0 ≤ ((x6_2.length : Int) : Int) := of_decide_eq_true (by first | (with_reducible assumption) | assumption)
                          have q123 : (x6_2.length : Int) < (x4_4.length : Int) := of_decide_eq_true (by first | (with_reducible assumption) | assumption)
                          obtain ⟨ad123, A123_0, c123_0, e123, hx123_0, hl123_0, hi123_0⟩ := at_L1 (Kd.S_reads' HO_4.out).2.2 (x6_2.length : Int) p123 q123
                          obtain rfl : ad115 = ad123 := (by injection e123)
                          obtain ⟨ce123, hce123, hMe123, hcc123⟩ := Kd.S_get HO_4.out [] (x6_2.length : Int) p123 (by first | exact q123 | exact of_decide_eq_true (by first | (with_reducible assumption) | assumption) | (have e_ := (Kd.S_reads' HO_4.out).1; omega))
                          obtain ⟨ve123_0, rfl, ge123_0⟩ := hMe123
                          have hv123_0 := hcc123 0 _ rfl
                          rw [Nat.add_zero, show ((Kd.slice 5 (Kd.int .u8))).sz = 1 from rfl, Nat.mul_one] at hv123_0
                          replace hv123_0 := Option.some.inj (hv123_0.symm.trans hx123_0)
                          rw [hv123_0] at ge123_0
                          have HL123_0 := Aside0.mk (show Kd.R (Kd.int .u8) 5 _ _ _ _ (rd_L1 x4_4 (x6_2.length : Int)) from ge123_0)
                          clear hv123_0 ge123_0
                          have HX123_0 := Aside0.mk hx123_0
                          clear hcc123 hce123
                          have HR123_0 := Aside0.mk hi123_0
                          have HC123_0 := Aside0.mk hl123_0
                          clear hi123_0 hl123_0
                          (try simp only [Go.IntWalk.toNatUp] at hx123_0)
                          (try simp only [hl4_4] at p123)
                          (try simp only [hl4_4] at q123)
                          (try simp only [hl4_4] at hx123_0)
                          replace p123 := eq_true p123
                          replace q123 := eq_true q123
                          have p124 : 0 ≤ ((x6_2.length : Int) : Int) := of_decide_eq_true (by first | (with_reducible assumption) | assumption)
                          have q124 : (x6_2.length : Int) < (x4_4.length : Int) := of_decide_eq_true (by first | (with_reducible assumption) | assumption)
                          obtain ⟨ad124, A124_0, c124_0, e124, hx124_0, hl124_0, hi124_0⟩ := at_L1 (Kd.S_reads' HO_4.out).2.2 (x6_2.length : Int) p124 q124
                          obtain rfl : ad115 = ad124 := (by injection e124)
                          obtain ⟨ce124, hce124, hMe124, hcc124⟩ := Kd.S_get HO_4.out [] (x6_2.length : Int) p124 (by first | exact q124 | exact of_decide_eq_true (by first | (with_reducible assumption) | assumption) | (have e_ := (Kd.S_reads' HO_4.out).1; omega))
                          obtain ⟨ve124_0, rfl, ge124_0⟩ := hMe124
                          have hv124_0 := hcc124 0 _ rfl
                          rw [Nat.add_zero, show ((Kd.slice 5 (Kd.int .u8))).sz = 1 from rfl, Nat.mul_one] at hv124_0
                          replace hv124_0 := Option.some.inj (hv124_0.symm.trans hx124_0)
                          rw [hv124_0] at ge124_0
                          have HL124_0 := Aside0.mk (show Kd.R (Kd.int .u8) 5 _ _ _ _ (rd_L1 x4_4 (x6_2.length : Int)) from ge124_0)
                          clear hv124_0 ge124_0
                          have HX124_0 := Aside0.mk hx124_0
                          clear hcc124 hce124
                          have HR124_0 := Aside0.mk hi124_0
                          have HC124_0 := Aside0.mk hl124_0
                          clear hi124_0 hl124_0
                          (try simp only [Go.IntWalk.toNatUp] at hx124_0)
                          (try simp only [hl4_4] at p124)
                          (try simp only [hl4_4] at q124)
                          (try simp only [hl4_4] at hx124_0)
                          replace p124 := eq_true p124
                          replace q124 := eq_true q124
                          have ea_ := Option.some.inj (hx123_0.symm.trans hx124_0)
                          injection ea_ with ea_ en_ ec_
                          subst ea_
                          subst ec_
                          clear en_
                          have p125 : 0 ≤ (x95_4 : Int) := of_decide_eq_true (by first | (with_reducible assumption) | assumption)
                          have q125 : x95_4 < ((rd_L1 x4_4 (x6_2.length : Int)).length : Int) := of_decide_eq_true (by first | (with_reducible assumption) | assumption)
                          obtain ⟨ad125, e125, hx125_0⟩ := Kd.at_int (by repeat (first | (with_reducible exact HR124_0.out) | (with_reducible refine Kd.C_alloc ?_ _) | (with_reducible refine Kd.C_drewN ?_ _) | (with_reducible refine Kd.C_drew ?_) | exact HR124_0.out)) x95_4 p125 q125
                          cases e125
                          replace p125 := eq_true p125
                          replace q125 := eq_true q125
                          refine start_ (n := 16) (S := fun w' => w'.cell? (ad115.add ((x6_2.length : Int)).toNat) = some (.slice (some ad125) (rd_L1 x4_4 (x6_2.length : Int)).length c123_0) ∧ w'.cell? (ad115.add ((x6_2.length : Int)).toNat) = some (.slice (some ad125) (rd_L1 x4_4 (x6_2.length : Int)).length c123_0) ∧ w'.cell? (ad125.add (x95_4).toNat) = some (.int .u8 (rd (rd_L1 x4_4 (x6_2.length : Int)) x95_4))) (ds := [15]) #[false, false, false, false, false, false, false, false, false, false, false, false, false, false, false, false] (by kernel_rfl) rfl rfl ⟨hx123_0, hx124_0, hx125_0⟩ (fun hHeld => ?_); refine with_tabW matrix_reduce.tab22 matrix_reduce.bits22 (fun HT_ HW_ => ?_)
                          generalize wr.drew = w45 at HO_4 HO_6 HB HL123_0 HL124_0 HR123_0 HR124_0 HX123_0 HX124_0 hx123_0 hx124_0 hx125_0 hHeld ⊢
                          refine pure_ (i := 0) (N := some 98) (v := ?_) (a' := ?_) #[true, false, false, false, false, false, false, false, false, false, false, false, false, false, false, false] rfl rfl (any_of HT_.out (by kernel_rfl)) (fun _ _ _ h => h) (Or.inl ⟨by rfl, ?_⟩) ?_ ?_
                          rotate_left
                          ·intro w'
                           go_simp
                           with_reducible rfl
                          rotate_left
                          ·simp only [Act.put, List.setIfInBounds_toArray, List.set_cons_zero, List.set_cons_succ, i64_w, i32_w]
                           rfl
                          refine pure_ (i := 1) (N := some 99) (v := ?_) (a' := ?_) #[true, true, false, false, false, false, false, false, false, false, false, false, false, false, false, false] rfl rfl (any_of HT_.out (by kernel_rfl)) (fun _ _ _ h => h) (Or.inl ⟨by rfl, ?_⟩) ?_ ?_
                          rotate_left
                          ·intro w'
                           go_simp
                           with_reducible rfl
                          rotate_left
                          ·simp only [Act.put, List.setIfInBounds_toArray, List.set_cons_zero, List.set_cons_succ, i64_w, i32_w]
                           rfl
                          refine pure_ (i := 2) (N := some 100) (v := ?_) (a' := ?_) #[true, true, true, false, false, false, false, false, false, false, false, false, false, false, false, false] rfl rfl (any_of HT_.out (by kernel_rfl)) (fun _ _ _ h => h) (Or.inl ⟨by rfl, ?_⟩) ?_ ?_
                          rotate_left
                          ·intro w'
                           go_simp
                           with_reducible rfl
                          rotate_left
                          ·simp only [Act.put, List.setIfInBounds_toArray, List.set_cons_zero, List.set_cons_succ, i64_w, i32_w]
                           rfl
                          refine pure_ (i := 4) (N := some 102) (v := ?_) (a' := ?_) #[true, true, true, false, true, false, false, false, false, false, false, false, false, false, false, false] rfl rfl (any_of HT_.out (by kernel_rfl)) (fun _ _ _ h => h) (Or.inl ⟨by rfl, ?_⟩) ?_ ?_
                          rotate_left
                          ·intro w'
                           go_simp
                           with_reducible rfl
                          rotate_left
                          ·simp only [Act.put, List.setIfInBounds_toArray, List.set_cons_zero, List.set_cons_succ, i64_w, i32_w]
                           rfl
                          refine pure_ (i := 5) (N := some 103) (v := ?_) (a' := ?_) #[true, true, true, false, true, true, false, false, false, false, false, false, false, false, false, false] rfl rfl (any_of HT_.out (by kernel_rfl)) (fun _ _ _ h => h) (Or.inl ⟨by rfl, ?_⟩) ?_ ?_
                          rotate_left
                          ·intro w'
                           go_simp
                           with_reducible rfl
                          rotate_left
                          ·simp only [Act.put, List.setIfInBounds_toArray, List.set_cons_zero, List.set_cons_succ, i64_w, i32_w]
                           rfl
                          refine pure_ (i := 6) (N := some 104) (v := ?_) (a' := ?_) #[true, true, true, false, true, true, true, false, false, false, false, false, false, false, false, false] rfl rfl (any_of HT_.out (by kernel_rfl)) (fun _ _ _ h => h) (Or.inl ⟨by rfl, ?_⟩) ?_ ?_
                          rotate_left
                          ·intro w'
                           go_simp
                           with_reducible rfl
                          rotate_left
                          ·simp only [Act.put, List.setIfInBounds_toArray, List.set_cons_zero, List.set_cons_succ, i64_w, i32_w]
                           rfl
                          refine pure_ (i := 7) (N := some 105) (v := ?_) (a' := ?_) #[true, true, true, false, true, true, true, true, false, false, false, false, false, false, false, false] rfl rfl (any_of HT_.out (by kernel_rfl)) (fun _ _ _ h => h) (Or.inl ⟨by rfl, ?_⟩) ?_ ?_
                          rotate_left
                          ·intro w'
                           go_simp
                           with_reducible rfl
                          rotate_left
                          ·simp only [Act.put, List.setIfInBounds_toArray, List.set_cons_zero, List.set_cons_succ, i64_w, i32_w]
                           rfl
                          refine pure_ (i := 9) (N := some 107) (v := ?_) (a' := ?_) #[true, true, true, false, true, true, true, true, false, true, false, false, false, false, false, false] rfl rfl (any_of HT_.out (by kernel_rfl)) (fun _ _ _ h => h) (Or.inl ⟨by rfl, ?_⟩) ?_ ?_
                          rotate_left
                          ·intro w'
                           go_simp
                           with_reducible rfl
                          rotate_left
                          ·simp only [Act.put, List.setIfInBounds_toArray, List.set_cons_zero, List.set_cons_succ, i64_w, i32_w]
                           rfl
                          refine pure_ (i := 12) (N := some 110) (v := ?_) (a' := ?_) #[true, true, true, false, true, true, true, true, false, true, false, false, true, false, false, false] rfl rfl (any_of HT_.out (by kernel_rfl)) (fun _ _ _ h => h) (Or.inl ⟨by rfl, ?_⟩) ?_ ?_
                          rotate_left
                          ·intro w'
                           go_simp
                           with_reducible rfl
                          rotate_left
                          ·simp only [Act.put, List.setIfInBounds_toArray, List.set_cons_zero, List.set_cons_succ, i64_w, i32_w]
                           rfl
                          refine take_ (i := 3) (N := some 101) (v := ?_) (a' := ?_) #[true, true, true, true, true, true, true, true, false, true, false, false, true, false, false, false] rfl rfl (take_ofW HT_.out HW_.out (by kernel_rfl)) (fun _ _ _ h => h) (Or.inl ⟨by rfl, ?_⟩) hHeld ?_ ?_
                          rotate_left
                          ·rintro w' ⟨s0, s1, s2⟩
                           (try simp only [Int.toNat_natCast] at s0 s1 s2)
                           go_simp
                           with_reducible rfl
                          rotate_left
                          ·simp only [Act.put, List.setIfInBounds_toArray, List.set_cons_zero, List.set_cons_succ, i64_w, i32_w]
                           rfl
                          refine take_ (i := 8) (N := some 106) (v := ?_) (a' := ?_) #[true, true, true, true, true, true, true, true, true, true, false, false, true, false, false, false] rfl rfl (take_ofW HT_.out HW_.out (by kernel_rfl)) (fun _ _ _ h => h) (Or.inl ⟨by rfl, ?_⟩) hHeld ?_ ?_
                          rotate_left
                          ·rintro w' ⟨s0, s1, s2⟩
                           (try simp only [Int.toNat_natCast] at s0 s1 s2)
                           go_simp
                           with_reducible rfl
                          rotate_left
                          ·simp only [Act.put, List.setIfInBounds_toArray, List.set_cons_zero, List.set_cons_succ, i64_w, i32_w]
                           rfl
                          refine pure_ (i := 10) (N := some 108) (v := ?_) (a' := ?_) #[true, true, true, true, true, true, true, true, true, true, true, false, true, false, false, false] rfl rfl (any_of HT_.out (by kernel_rfl)) (fun _ _ _ h => h) (Or.inl ⟨by rfl, ?_⟩) ?_ ?_
                          rotate_left
                          ·intro w'
                           go_simp
                           with_reducible rfl
                          rotate_left
                          ·simp only [Act.put, List.setIfInBounds_toArray, List.set_cons_zero, List.set_cons_succ, i64_w, i32_w]
                           rfl
                          refine take_ (i := 11) (N := some 109) (v := ?_) (a' := ?_) #[true, true, true, true, true, true, true, true, true, true, true, true, true, false, false, false] rfl rfl (take_ofW HT_.out HW_.out (by kernel_rfl)) (fun _ _ _ h => h) (Or.inl ⟨by rfl, ?_⟩) hHeld ?_ ?_
                          rotate_left
                          ·rintro w' ⟨s0, s1, s2⟩
                           (try simp only [Int.toNat_natCast] at s0 s1 s2)
                           go_simp
                           with_reducible rfl
                          rotate_left
                          ·simp only [Act.put, List.setIfInBounds_toArray, List.set_cons_zero, List.set_cons_succ, i64_w, i32_w]
                           rfl
                          refine one_ (i := 13) (N := some 111) #[true, true, true, true, true, true, true, true, true, true, true, true, true, true, false, false] rfl rfl (one_of HT_.out (by kernel_rfl)) (by decide) (fun K hK => ?_)
                          refine goes_ Tryd.func48 (by kernel_rfl) rfl #[.int .u8 (rd (rd_L1 x4_4 (x6_2.length : Int)) x95_4), .int .u8 t120] (by rfl) rfl rfl (by (try simp only [List.map_toArray, List.map_cons, List.map_nil]); first | done | rfl | (simp only [List.length_drop, List.length_take]; rfl)) ?_
                          with_reducible refine (gf_Mul.calls k4 (rd (rd_L1 x4_4 (x6_2.length : Int)) x95_4) t120 t126 _ ?side1 A43.out).mono ?_
                          (case side1 => first | (with_reducible exact HG.out) | (with_reducible exact HighIn.drewN HG.out _) | exact HighIn.below HG.out (by repeat (first | (with_reducible first | exact HB.out | apply below_alloc | apply pw_below_drewN | apply below_drew1) | exact HB.out)) | ((repeat (first | (with_reducible exact HG.out) | (with_reducible apply HighIn.drewN) | (with_reducible apply HighIn.drew) | (with_reducible apply HighIn.alloc))); done))
                          rintro e w' ⟨rfl, ⟨nd, rfl⟩⟩
                          refine ⟨_, rfl, ?_⟩
                          have p44 : 0 ≤ (x95_4 : Int) := of_decide_eq_true (by first | (with_reducible assumption) | assumption)
                          have q44 : (x95_4 : Int) < (((rd_L1 x4_4 (x6_2.length : Int)).length : Int) : Int) := of_decide_eq_true (by first | (with_reducible assumption) | assumption)
                          obtain ⟨go44, co44, eo44, gb44, gl44, cl44, HG44⟩ := Kd.R_form HL123_0.out (by omega)
                          (first | cases eo44 | (injection eo44 with ea_ en_ ec_; (first | subst ea_ | (injection ea_ with ea_; subst ea_)); subst ec_; clear en_))
                          have GB44 := Aside0.mk gb44
                          have GG44 := Aside0.mk HG44
                          clear gb44 gl44 HG44
                          (first | simp only [add_plain] at hx125_0 | skip)
                          obtain ⟨hx44_0, hf44_0⟩ := Kd.R_celln 0 HL123_0.out (x95_4 : Int) p44 q44
                          replace p44 := eq_true p44
                          replace q44 := eq_true q44
                          have hq46 : ((x6_2.length : Int) : Int) < (x4_4.length : Int) := (by have h_ : ((x6_2.length : Int) : Int) < ((x4_4.length : Int) : Int) := of_decide_eq_true (by first | (with_reducible assumption) | assumption); first | exact h_ | (have e_ := (Kd.S_reads' HO_4.out).1; omega) | simpa only [List.length_set, List.length_set] using h_)
                          obtain ⟨oki46, ce46, hcl46, hM46, hcc46, hok46, hbk46⟩ := Kd.S_borrow HO_4.out [] ((x6_2.length : Int) : Int) (of_decide_eq_true (by first | (with_reducible assumption) | assumption)) hq46
                          obtain ⟨ve46_0, rfl, ge46_0⟩ := hM46
                          have hv46 := hcc46 0 _ rfl
                          rw [Nat.add_zero, show ((Kd.slice 5 (Kd.int .u8))).sz = 1 from rfl, Nat.mul_one] at hv46
                          replace hv46 := Option.some.inj (hv46.symm.trans HX123_0.out)
                          subst hv46
                          clear hcc46 hcl46
                          replace ge46_0 := (show Kd.R (Kd.int .u8) 5 _ _ _ _ (rd_L1 x4_4 (x6_2.length : Int)) from ge46_0)
                          have HP46 := Kd.R_putg ge46_0 (x95_4 : Int) t126
                          rw [← Ny127.out] at HP46
                          have HS46 := hbk46 HP46.2 (fun k_ e_ => by injection e_ with e_; subst e_; exact ge46_0.1 _ rfl) (x' := y127) (Kd.M_row HP46.1)
                          rw [← Ny129.out] at HS46
                          have HQ46 := Aside0.mk HS46
                          clear HP46 HS46 hbk46 hok46
                          refine hK.out _ _ ⟨hHeld.1, hHeld.2.1, hHeld.2.2⟩ (fun hHeld => ?_)
                          clear hK K
                          refine norm_ (a' := ?_) ?_ ?_
                          rotate_left
                          ·show Act.put _ (some 111) _ = _
                           simp only [Act.put, List.setIfInBounds_toArray, List.set_cons_zero, List.set_cons_succ, i64_w, i32_w]
                           rfl
                          refine pure_ (i := 14) (N := some 112) (v := ?_) (a' := ?_) #[true, true, true, true, true, true, true, true, true, true, true, true, true, true, true, false] rfl rfl (any_of HT_.out (by kernel_rfl)) (fun _ _ _ h => h) (Or.inl ⟨by rfl, ?_⟩) ?_ ?_
                          rotate_left
                          ·intro w'
                           go_simp
                           with_reducible rfl
                          rotate_left
                          ·simp only [Act.put, List.setIfInBounds_toArray, List.set_cons_zero, List.set_cons_succ, i64_w, i32_w]
                           rfl
                          refine last_ (i := 15) (N := none) #[true, true, true, true, true, true, true, true, true, true, true, true, true, true, true, true] rfl rfl (one_of HT_.out (by kernel_rfl)) (by decide) (fun K hK => ?_)
                          refine skip_ (w1 := ?_) (by rfl) rfl ?_ ?_
                          rotate_left
                          ·go_simp
                           rfl
                          refine hK.out _ _ ?_
                          clear hK K
                          refine done_ (done_of HT_.out (by kernel_rfl)) ?_
                          try go_wp2_with (first | (go_step3))
                          (try simp only [← hl4_4])
                          go_roundg k4
                          case measure => have := HK1.out; have := HK2.out; have := HK3.out; have := HK4.out; omega
                          case rel => exact ⟨(y129), (wrap64 (x95_4 + 1)), (by first | rfl | (simp; done) | (simp [*]; done)), H', ⟨by have := HK1.out; have := HK2.out; have := HK3.out; have := HK4.out; omega⟩, ⟨by (try simp only [hl4_4]); (with_reducible repeat (first | apply Kd.S_alloc | apply Kd.S_drewN | apply Kd.S_drew)); exact HQ46.out⟩, ⟨by (try simp only [hl4_4]); (with_reducible repeat (first | apply Kd.R_alloc | apply Kd.R_drewN | apply Kd.R_drew)); exact Kd.R_mono (Kd.R_far (p := ⟨go44, (x95_4 : Int).toNat, none⟩) (Kd.R_types HO_6.out GG44.out (by decide)) (fun _ hk => hk.2) (.int .u8 t126)) (fun _ hk => trivial)⟩, ⟨by repeat (first | (with_reducible first | exact HB.out | apply below_alloc | apply pw_below_drewN | apply below_drew1 | refine below_set ?_ GB44.out) | exact HB.out)⟩⟩
                         ·rw [if_neg c42] at H
                          exact absurd H (by simp)
                        ·rw [if_neg c41] at H
                         exact absurd H (by simp)
                       ·rw [if_neg c40] at H
                        exact absurd H (by simp)
                      ·rw [if_neg c39] at H
                       exact absurd H (by simp)
                     ·rw [if_neg c38] at H
                      have c38b0 : decide (x95_4 < ((rd_L1 t117 (x6_2.length : Int)).length : Int)) = false := decide_eq_false c38
                      have c38b0z := c38b0
                      (try simp only [hl4_4] at c38b0z)
                      clear c38
                      have H' := Aside0.mk H
                      clear H
                      go_wp2_with (first | (go_step3))
                      go_loopg [116] k4 (fun kq v116 w' => ∃ (x4_5 : List (List Int)) (x116_5 : Int), v116 = .int .i64 x116_5 ∧ Aside0 (matrix_reduce.l4 kq x4_5 x6_3 x45_2 (x6_2.length : Int) t111 x45_2 (x4_4.length : Int) x116_5 = some (r1, r2)) ∧ Aside0 (kq ≤ k4) ∧ Aside0 (Kd.S (Kd.slice 5 (Kd.int .u8)) 43 w' w.heap.size (fun _ => True) (.slice (some ad115) x4_4.length co35) x4_5) ∧ Aside0 (Kd.R (Kd.int .i64) 3 w' w.heap.size (fun _ => True) u6 x6_3) ∧ Aside0 (Below w.heap.size w w'))
                      case atStart => exact ⟨(x4_4), (0), (by first | rfl | (simp; done) | (simp [*]; done)), H', ⟨Nat.le_refl _⟩, ⟨by (try simp only [hl4_4]); (with_reducible repeat (first | apply Kd.S_alloc | apply Kd.S_drewN | apply Kd.S_drew)); exact HO_4.out⟩, ⟨by (try simp only [hl4_4]); (with_reducible repeat (first | apply Kd.R_alloc | apply Kd.R_drewN | apply Kd.R_drew)); exact HO_6.out⟩, ⟨by repeat (first | (with_reducible first | exact HB.out | apply below_alloc | apply pw_below_drewN | apply below_drew1) | exact HB.out)⟩⟩
                      case round =>
                       clear H'
                       try clear c1
                       try clear p1
                       try clear q1
                       try clear hx1
                       try clear hf1
                       try clear c2
                       try clear c2b0
                       try clear c2b1
                       try clear p2
                       try clear c3
                       try clear c3b0
                       try clear c3b1
                       try clear p3
                       try clear c4
                       try clear p4
                       try clear q4
                       try clear hx4
                       try clear hf4
                       try clear c5
                       try clear c6
                       try clear c6b0
                       try clear p6
                       try clear c7
                       try clear c7b0
                       try clear c8
                       try clear c8b0
                       try clear c9
                       try clear c9b0
                       try clear c9b1
                       try clear c10
                       try clear c10b0
                       try clear c10b1
                       try clear p10
                       try clear q10
                       try clear hx10
                       try clear c11
                       try clear c11b0
                       try clear p11
                       try clear q11
                       try clear hx11
                       try clear c12
                       try clear p12
                       try clear q12
                       try clear hx12
                       try clear hf12
                       try clear c16
                       try clear hx16
                       try clear hf16
                       try clear c22
                       try clear c22b0
                       try clear c24
                       try clear c24b0
                       try clear c25
                       try clear c25b0
                       try clear c26
                       try clear c26b0
                       try clear c27
                       try clear c27b0
                       try clear c28
                       try clear c28b0
                       try clear c28b1
                       try clear c31
                       try clear c31b0
                       try clear c31b1
                       try clear c32
                       try clear c32b0
                       try clear c32b1
                       try clear c33
                       try clear c33b0
                       try clear c36
                       try clear c38
                       try clear c38b0
                       try clear c39
                       try clear c39b0
                       try clear c39b1
                       try clear c40
                       try clear c40b0
                       try clear c40b1
                       try clear c41
                       try clear c41b0
                       try clear c42
                       try clear c42b0
                       try clear p44
                       try clear q44
                       try clear hx44
                       try clear hf44
                       try clear c46
                       try clear q46
                       try clear hx105_0
                       try clear hx115_0
                       try clear hx116_0
                       try clear hx118_0
                       try clear hx119_0
                       try clear hx122_0
                       try clear hx123_0
                       try clear hx124_0
                       try clear hx125_0
                       try clear hx12_0
                       try clear hx16_0
                       try clear hx44_0
                       try clear p1
                       try clear p10
                       try clear p105
                       try clear p11
                       try clear p115
                       try clear p116
                       try clear p118
                       try clear p119
                       try clear p12
                       try clear p122
                       try clear p123
                       try clear p124
                       try clear p125
                       try clear p2
                       try clear p3
                       try clear p44
                       try clear p6
                       try clear q1
                       try clear q10
                       try clear q105
                       try clear q11
                       try clear q115
                       try clear q116
                       try clear q118
                       try clear q119
                       try clear q12
                       try clear q122
                       try clear q123
                       try clear q124
                       try clear q125
                       try clear q44
                       obtain ⟨x4_5, x116_5, rfl, HA, HK5, HO_4, HO_6, HB⟩ := hrel
                       have hl4_5 := (Kd.S_reads' HO_4.out).1
                       rw [hl4_5] at HO_4
                       (try simp only [hl4_5])
                       (try simp only [hl4_5] at HO_6)
                       cases gk with
                       | zero => exact absurd HA.out (by simp [matrix_reduce.l4])
                       | succ k5 =>
                        have H := HA.out
                        clear HA
                        simp only [matrix_reduce.l4] at H
                        by_cases c48 : x116_5 < (x4_4.length : Int)
                        ·rw [if_pos c48] at H
                         have c48b0 : decide (x116_5 < (x4_4.length : Int)) = true := decide_eq_true c48
                         clear c48
                         by_cases c49 : 0 ≤ x116_5
                         ·rw [if_pos c49] at H
                          have c49b0 : decide (0 ≤ x116_5) = true := decide_eq_true c49
                          clear c49
                          by_cases c50 : x116_5 < (x4_5.length : Int)
                          ·rw [if_pos c50] at H
                           have c50b0 : decide (x116_5 < (x4_5.length : Int)) = true := decide_eq_true c50
                           clear c50
                           by_cases c51 : 0 ≤ x45_2
                           ·rw [if_pos c51] at H
                            have c51b0 : decide (0 ≤ x45_2) = true := decide_eq_true c51
                            clear c51
                            by_cases c52 : x45_2 < ((rd_L1 x4_5 x116_5).length : Int)
                            ·rw [if_pos c52] at H
                             have c52b0 : decide (x45_2 < ((rd_L1 x4_5 x116_5).length : Int)) = true := decide_eq_true c52
                             clear c52
                             have HC53 := Aside0.mk H
                             clear H
                             have p133 : 0 ≤ (x116_5 : Int) := of_decide_eq_true (by first | (with_reducible assumption) | assumption)
                             have q133 : x116_5 < (x4_5.length : Int) := of_decide_eq_true (by first | (with_reducible assumption) | assumption)
                             obtain ⟨ad133, A133_0, c133_0, e133, hx133_0, hl133_0, hi133_0⟩ := at_L1 (Kd.S_reads' HO_4.out).2.2 x116_5 p133 q133
                             obtain rfl : ad115 = ad133 := (by injection e133)
                             obtain ⟨ce133, hce133, hMe133, hcc133⟩ := Kd.S_get HO_4.out [] x116_5 p133 (by first | exact q133 | exact of_decide_eq_true (by first | (with_reducible assumption) | assumption) | (have e_ := (Kd.S_reads' HO_4.out).1; omega))
                             obtain ⟨ve133_0, rfl, ge133_0⟩ := hMe133
                             have hv133_0 := hcc133 0 _ rfl
                             rw [Nat.add_zero, show ((Kd.slice 5 (Kd.int .u8))).sz = 1 from rfl, Nat.mul_one] at hv133_0
                             replace hv133_0 := Option.some.inj (hv133_0.symm.trans hx133_0)
                             rw [hv133_0] at ge133_0
                             have HL133_0 := Aside0.mk (show Kd.R (Kd.int .u8) 5 _ _ _ _ (rd_L1 x4_5 x116_5) from ge133_0)
                             clear hv133_0 ge133_0
                             have HX133_0 := Aside0.mk hx133_0
                             clear hcc133 hce133
                             have HR133_0 := Aside0.mk hi133_0
                             have HC133_0 := Aside0.mk hl133_0
                             clear hi133_0 hl133_0
                             replace p133 := eq_true p133
                             replace q133 := eq_true q133
                             have p134 : 0 ≤ (x45_2 : Int) := of_decide_eq_true (by first | (with_reducible assumption) | assumption)
                             have q134 : x45_2 < ((rd_L1 x4_5 x116_5).length : Int) := of_decide_eq_true (by first | (with_reducible assumption) | assumption)
                             obtain ⟨ad134, e134, hx134_0⟩ := Kd.at_int (by repeat (first | (with_reducible exact HR133_0.out) | (with_reducible refine Kd.C_alloc ?_ _) | (with_reducible refine Kd.C_drewN ?_ _) | (with_reducible refine Kd.C_drew ?_) | exact HR133_0.out)) x45_2 p134 q134
                             cases e134
                             replace p134 := eq_true p134
                             replace q134 := eq_true q134
                             go_upto_region 28 with (fail)
                             go_cut [132] (fun v132 wc => ∃ (kq : Nat) (x132_52 : Bool), v132 = .bool x132_52 ∧ Aside0 (matrix_reduce.j5 kq x4_5 x6_3 x45_2 (x6_2.length : Int) x116_5 (rd (rd_L1 x4_5 x116_5) x45_2) t111 x45_2 (x4_4.length : Int) x116_5 x132_52 = some (r1, r2)) ∧ Aside0 (kq ≤ k5) ∧ Aside0 (Kd.S (Kd.slice 5 (Kd.int .u8)) 43 wc w.heap.size (fun _ => True) (.slice (some ad115) x4_5.length co35) x4_5) ∧ Aside0 (Kd.R (Kd.int .i64) 3 wc w.heap.size (fun _ => True) u6 x6_3) ∧ Aside0 (Kd.C (Kd.int .u8) wc (some ad134) (rd_L1 x4_5 x116_5).length (rd_L1 x4_5 x116_5)) ∧ Aside0 (Below w.heap.size w wc))
                             case first =>
                              have H := HC53.out
                              clear HC53
                              by_cases c54 : x116_5 = (x6_2.length : Int)
                              ·rw [if_pos c54] at H
                               have c54b0 : (x116_5 == (x6_2.length : Int)) = true := beq_iff_eq.mpr c54
                               have c54b1 : (x116_5 != (x6_2.length : Int)) = false := bne_eq_false_iff_eq.mpr c54
                               clear c54
                               (first | rw [c54b0] | (simp only [i64_w, i32_w]; rw [c54b0]) | skip)
                               have H' := Aside0.mk H
                               clear H
                               go_wp2_with (first | (go_step3))
                               go_meet
                               case rel => exact ⟨_, (false), (by first | rfl | (simp; done) | (simp [*]; done)), H', ⟨by have := HK1.out; have := HK2.out; have := HK3.out; have := HK4.out; have := HK5.out; first | omega | exact Nat.le_refl _⟩, ⟨by (try simp only [hl4_4]); (try simp only [hl4_5]); (with_reducible repeat (first | apply Kd.S_alloc | apply Kd.S_drewN | apply Kd.S_drew)); exact HO_4.out⟩, ⟨by (try simp only [hl4_4]); (try simp only [hl4_5]); (with_reducible repeat (first | apply Kd.R_alloc | apply Kd.R_drewN | apply Kd.R_drew)); exact HO_6.out⟩, ⟨by repeat (first | (with_reducible exact HR133_0.out) | (with_reducible refine Kd.C_alloc ?_ _) | (with_reducible refine Kd.C_drewN ?_ _) | (with_reducible refine Kd.C_drew ?_) | exact HR133_0.out)⟩, ⟨by repeat (first | (with_reducible first | exact HB.out | apply below_alloc | apply pw_below_drewN | apply below_drew1) | exact HB.out)⟩⟩
                              ·rw [if_neg c54] at H
                               have c54b0 : (x116_5 == (x6_2.length : Int)) = false := beq_eq_false_iff_ne.mpr c54
                               have c54b1 : (x116_5 != (x6_2.length : Int)) = true := bne_iff_ne.mpr c54
                               (first | rw [c54b0] | (simp only [i64_w, i32_w]; rw [c54b0]) | skip)
                               have H' := Aside0.mk H
                               clear H
                               go_wp2_with (first | (go_step3))
                               go_meet
                               case rel => exact ⟨_, (((rd (rd_L1 x4_5 x116_5) x45_2) != 0)), (by first | rfl | (simp; done) | (simp [*]; done)), H', ⟨by have := HK1.out; have := HK2.out; have := HK3.out; have := HK4.out; have := HK5.out; first | omega | exact Nat.le_refl _⟩, ⟨by (try simp only [hl4_4]); (try simp only [hl4_5]); (with_reducible repeat (first | apply Kd.S_alloc | apply Kd.S_drewN | apply Kd.S_drew)); exact HO_4.out⟩, ⟨by (try simp only [hl4_4]); (try simp only [hl4_5]); (with_reducible repeat (first | apply Kd.R_alloc | apply Kd.R_drewN | apply Kd.R_drew)); exact HO_6.out⟩, ⟨by repeat (first | (with_reducible exact HR133_0.out) | (with_reducible refine Kd.C_alloc ?_ _) | (with_reducible refine Kd.C_drewN ?_ _) | (with_reducible refine Kd.C_drew ?_) | exact HR133_0.out)⟩, ⟨by repeat (first | (with_reducible first | exact HB.out | apply below_alloc | apply pw_below_drewN | apply below_drew1) | exact HB.out)⟩⟩
                             case rest =>
                              clear HC53
                              try clear c1
                              try clear p1
                              try clear q1
                              try clear hx1
                              try clear hf1
                              try clear c2
                              try clear c2b0
                              try clear c2b1
                              try clear p2
                              try clear c3
                              try clear c3b0
                              try clear c3b1
                              try clear p3
                              try clear c4
                              try clear p4
                              try clear q4
                              try clear hx4
                              try clear hf4
                              try clear c5
                              try clear c6
                              try clear c6b0
                              try clear p6
                              try clear c7
                              try clear c7b0
                              try clear c8
                              try clear c8b0
                              try clear c9
                              try clear c9b0
                              try clear c9b1
                              try clear c10
                              try clear c10b0
                              try clear c10b1
                              try clear p10
                              try clear q10
                              try clear hx10
                              try clear c11
                              try clear c11b0
                              try clear p11
                              try clear q11
                              try clear hx11
                              try clear c12
                              try clear p12
                              try clear q12
                              try clear hx12
                              try clear hf12
                              try clear c13
                              try clear p13
                              try clear q13
                              try clear hx13
                              try clear c16
                              try clear hx16
                              try clear hf16
                              try clear c22
                              try clear c22b0
                              try clear c24
                              try clear c24b0
                              try clear c25
                              try clear c25b0
                              try clear c26
                              try clear c26b0
                              try clear c27
                              try clear c27b0
                              try clear c28
                              try clear c28b0
                              try clear c28b1
                              try clear c31
                              try clear c31b0
                              try clear c31b1
                              try clear c32
                              try clear c32b0
                              try clear c32b1
                              try clear c33
                              try clear c33b0
                              try clear c36
                              try clear c38
                              try clear c38b0
                              try clear c39
                              try clear c39b0
                              try clear c39b1
                              try clear c40
                              try clear c40b0
                              try clear c40b1
                              try clear c41
                              try clear c41b0
                              try clear c42
                              try clear c42b0
                              try clear p44
                              try clear q44
                              try clear hx44
                              try clear hf44
                              try clear c46
                              try clear q46
                              try clear c48
                              try clear c48b0
                              try clear c49
                              try clear c49b0
                              try clear c50
                              try clear c50b0
                              try clear c51
                              try clear c51b0
                              try clear c52
                              try clear c52b0
                              try clear c54
                              try clear c54b0
                              try clear c54b1
                              try clear hx105_0
                              try clear hx115_0
                              try clear hx116_0
                              try clear hx118_0
                              try clear hx119_0
                              try clear hx122_0
                              try clear hx123_0
                              try clear hx124_0
                              try clear hx125_0
                              try clear hx12_0
                              try clear hx133_0
                              try clear hx134_0
                              try clear hx16_0
                              try clear hx44_0
                              try clear p1
                              try clear p10
                              try clear p105
                              try clear p11
                              try clear p115
                              try clear p116
                              try clear p118
                              try clear p119
                              try clear p12
                              try clear p122
                              try clear p123
                              try clear p124
                              try clear p125
                              try clear p133
                              try clear p134
                              try clear p2
                              try clear p3
                              try clear p4
                              try clear p44
                              try clear p6
                              try clear q1
                              try clear q10
                              try clear q105
                              try clear q11
                              try clear q115
                              try clear q116
                              try clear q118
                              try clear q119
                              try clear q12
                              try clear q122
                              try clear q123
                              try clear q124
                              try clear q125
                              try clear q133
                              try clear q134
                              try clear q4
                              try clear q44
                              try clear q46
                              obtain ⟨kq, x132_52, rfl, HA, HJ52, HO_4, HO_6, HR133_0, HB⟩ := hcut
                              cases kq with
                              | zero => exact absurd HA.out (by simp [matrix_reduce.j5])
                              | succ kj52 =>
                               have H := HA.out
                               clear HA
                               simp only [matrix_reduce.j5] at H
                               by_cases c55 : x132_52 = true
                               ·subst c55
                                have H1 : (if 0 ≤ x116_5 then (if x116_5 < (x4_5.length : Int) then (matrix_reduce.l5 kj52 x4_5 x6_3 x45_2 (x6_2.length : Int) x116_5 (rd (rd_L1 x4_5 x116_5) x45_2) t111 x45_2 (x4_4.length : Int) x116_5 ((rd_L1 x4_5 x116_5).length : Int) 0) else (none)) else (none)) = some (r1, r2) := by rw [if_pos rfl] at H; exact H
                                clear H
                                have H := H1
                                clear H1
                                by_cases c56 : 0 ≤ x116_5
                                ·rw [if_pos c56] at H
                                 have c56b0 : decide (0 ≤ x116_5) = true := decide_eq_true c56
                                 clear c56
                                 by_cases c57 : x116_5 < (x4_5.length : Int)
                                 ·rw [if_pos c57] at H
                                  have c57b0 : decide (x116_5 < (x4_5.length : Int)) = true := decide_eq_true c57
                                  clear c57
                                  have H' := Aside0.mk H
                                  clear H
                                  have p135 : 0 ≤ (x116_5 : Int) := of_decide_eq_true (by first | (with_reducible assumption) | assumption)
                                  have q135 : x116_5 < (x4_5.length : Int) := of_decide_eq_true (by first | (with_reducible assumption) | assumption)
                                  obtain ⟨ad135, A135_0, c135_0, e135, hx135_0, hl135_0, hi135_0⟩ := at_L1 (Kd.S_reads' HO_4.out).2.2 x116_5 p135 q135
                                  obtain rfl : ad115 = ad135 := (by injection e135)
                                  obtain ⟨ce135, hce135, hMe135, hcc135⟩ := Kd.S_get HO_4.out [] x116_5 p135 (by first | exact q135 | exact of_decide_eq_true (by first | (with_reducible assumption) | assumption) | (have e_ := (Kd.S_reads' HO_4.out).1; omega))
                                  obtain ⟨ve135_0, rfl, ge135_0⟩ := hMe135
                                  have hv135_0 := hcc135 0 _ rfl
                                  rw [Nat.add_zero, show ((Kd.slice 5 (Kd.int .u8))).sz = 1 from rfl, Nat.mul_one] at hv135_0
                                  replace hv135_0 := Option.some.inj (hv135_0.symm.trans hx135_0)
                                  rw [hv135_0] at ge135_0
                                  have HL135_0 := Aside0.mk (show Kd.R (Kd.int .u8) 5 _ _ _ _ (rd_L1 x4_5 x116_5) from ge135_0)
                                  clear hv135_0 ge135_0
                                  have HX135_0 := Aside0.mk hx135_0
                                  clear hcc135 hce135
                                  have HR135_0 := Aside0.mk hi135_0
                                  have HC135_0 := Aside0.mk hl135_0
                                  clear hi135_0 hl135_0
                                  replace p135 := eq_true p135
                                  replace q135 := eq_true q135
                                  go_wp2_with (first | (go_step3))
                                  go_loopg [138] kj52 (fun kq v138 w' => ∃ (x4_7 : List (List Int)) (x138_7 : Int), v138 = .int .i64 x138_7 ∧ Aside0 (matrix_reduce.l5 kq x4_7 x6_3 x45_2 (x6_2.length : Int) x116_5 (rd (rd_L1 x4_5 x116_5) x45_2) t111 x45_2 (x4_4.length : Int) x116_5 ((rd_L1 x4_5 x116_5).length : Int) x138_7 = some (r1, r2)) ∧ Aside0 (kq ≤ kj52) ∧ Aside0 (Kd.S (Kd.slice 5 (Kd.int .u8)) 43 w' w.heap.size (fun _ => True) (.slice (some ad115) x4_5.length co35) x4_7) ∧ Aside0 (Kd.R (Kd.int .i64) 3 w' w.heap.size (fun _ => True) u6 x6_3) ∧ Aside0 (Below w.heap.size w w'))
                                  case atStart => exact ⟨(x4_5), (0), (by first | rfl | (simp; done) | (simp [*]; done)), H', ⟨Nat.le_refl _⟩, ⟨by (try simp only [hl4_4]); (try simp only [hl4_5]); (with_reducible repeat (first | apply Kd.S_alloc | apply Kd.S_drewN | apply Kd.S_drew)); exact HO_4.out⟩, ⟨by (try simp only [hl4_4]); (try simp only [hl4_5]); (with_reducible repeat (first | apply Kd.R_alloc | apply Kd.R_drewN | apply Kd.R_drew)); exact HO_6.out⟩, ⟨by repeat (first | (with_reducible first | exact HB.out | apply below_alloc | apply pw_below_drewN | apply below_drew1) | exact HB.out)⟩⟩
                                  case round =>
                                   clear H'
                                   try clear c1
                                   try clear p1
                                   try clear q1
                                   try clear hx1
                                   try clear hf1
                                   try clear c2
                                   try clear c2b0
                                   try clear c2b1
                                   try clear p2
                                   try clear c3
                                   try clear c3b0
                                   try clear c3b1
                                   try clear p3
                                   try clear c4
                                   try clear p4
                                   try clear q4
                                   try clear hx4
                                   try clear hf4
                                   try clear c5
                                   try clear c6
                                   try clear c6b0
                                   try clear p6
                                   try clear c7
                                   try clear c7b0
                                   try clear c8
                                   try clear c8b0
                                   try clear c9
                                   try clear c9b0
                                   try clear c9b1
                                   try clear c10
                                   try clear c10b0
                                   try clear c10b1
                                   try clear p10
                                   try clear q10
                                   try clear hx10
                                   try clear c11
                                   try clear c11b0
                                   try clear p11
                                   try clear q11
                                   try clear hx11
                                   try clear c12
                                   try clear p12
                                   try clear q12
                                   try clear hx12
                                   try clear hf12
                                   try clear c13
                                   try clear p13
                                   try clear q13
                                   try clear hx13
                                   try clear c16
                                   try clear hx16
                                   try clear hf16
                                   try clear c22
                                   try clear c22b0
                                   try clear c24
                                   try clear c24b0
                                   try clear c25
                                   try clear c25b0
                                   try clear c26
                                   try clear c26b0
                                   try clear c27
                                   try clear c27b0
                                   try clear c28
                                   try clear c28b0
                                   try clear c28b1
                                   try clear c31
                                   try clear c31b0
                                   try clear c31b1
                                   try clear c32
                                   try clear c32b0
                                   try clear c32b1
                                   try clear c33
                                   try clear c33b0
                                   try clear c36
                                   try clear c38
                                   try clear c38b0
                                   try clear c39
                                   try clear c39b0
                                   try clear c39b1
                                   try clear c40
                                   try clear c40b0
                                   try clear c40b1
                                   try clear c41
                                   try clear c41b0
                                   try clear c42
                                   try clear c42b0
                                   try clear p44
                                   try clear q44
                                   try clear hx44
                                   try clear hf44
                                   try clear c46
                                   try clear q46
                                   try clear c48
                                   try clear c48b0
                                   try clear c49
                                   try clear c49b0
                                   try clear c50
                                   try clear c50b0
                                   try clear c51
                                   try clear c51b0
                                   try clear c52
                                   try clear c52b0
                                   try clear c54
                                   try clear c54b0
                                   try clear c54b1
                                   try clear c55
                                   try clear c56
                                   try clear c56b0
                                   try clear c57
                                   try clear c57b0
                                   try clear hx105_0
                                   try clear hx115_0
                                   try clear hx116_0
                                   try clear hx118_0
                                   try clear hx119_0
                                   try clear hx122_0
                                   try clear hx123_0
                                   try clear hx124_0
                                   try clear hx125_0
                                   try clear hx12_0
                                   try clear hx133_0
                                   try clear hx134_0
                                   try clear hx135_0
                                   try clear hx16_0
                                   try clear hx44_0
                                   try clear p1
                                   try clear p10
                                   try clear p105
                                   try clear p11
                                   try clear p115
                                   try clear p116
                                   try clear p118
                                   try clear p119
                                   try clear p12
                                   try clear p122
                                   try clear p123
                                   try clear p124
                                   try clear p125
                                   try clear p13
                                   try clear p133
                                   try clear p134
                                   try clear p135
                                   try clear p2
                                   try clear p3
                                   try clear p4
                                   try clear p44
                                   try clear p6
                                   try clear q1
                                   try clear q10
                                   try clear q105
                                   try clear q11
                                   try clear q115
                                   try clear q116
                                   try clear q118
                                   try clear q119
                                   try clear q12
                                   try clear q122
                                   try clear q123
                                   try clear q124
                                   try clear q125
                                   try clear q13
                                   try clear q133
                                   try clear q134
                                   try clear q135
                                   try clear q4
                                   try clear q44
                                   try clear q46
                                   obtain ⟨x4_7, x138_7, rfl, HA, HK7, HO_4, HO_6, HB⟩ := hrel
                                   have hl4_7 := (Kd.S_reads' HO_4.out).1
                                   rw [hl4_7] at HO_4
                                   (try simp only [hl4_7])
                                   (try simp only [hl4_7] at HO_6)
                                   cases gk with
                                   | zero => exact absurd HA.out (by simp [matrix_reduce.l5])
                                   | succ k7 =>
                                    have H := HA.out
                                    clear HA
                                    simp only [matrix_reduce.l5] at H
                                    by_cases c58 : x138_7 < ((rd_L1 x4_5 x116_5).length : Int)
                                    ·rw [if_pos c58] at H
                                     have c58b0 : decide (x138_7 < ((rd_L1 x4_5 x116_5).length : Int)) = true := decide_eq_true c58
                                     clear c58
                                     by_cases c59 : 0 ≤ x116_5
                                     ·rw [if_pos c59] at H
                                      have c59b0 : decide (0 ≤ x116_5) = true := decide_eq_true c59
                                      clear c59
                                      by_cases c60 : x116_5 < (x4_7.length : Int)
                                      ·rw [if_pos c60] at H
                                       have c60b0 : decide (x116_5 < (x4_7.length : Int)) = true := decide_eq_true c60
                                       clear c60
                                       by_cases c61 : 0 ≤ x138_7
                                       ·rw [if_pos c61] at H
                                        have c61b0 : decide (0 ≤ x138_7) = true := decide_eq_true c61
                                        clear c61
                                        by_cases c62 : x138_7 < ((rd_L1 x4_7 x116_5).length : Int)
                                        ·rw [if_pos c62] at H
                                         have c62b0 : decide (x138_7 < ((rd_L1 x4_7 x116_5).length : Int)) = true := decide_eq_true c62
                                         clear c62
                                         by_cases c63 : 0 ≤ (x6_2.length : Int)
                                         ·rw [if_pos c63] at H
                                          have c63b0 : decide (0 ≤ (x6_2.length : Int)) = true := decide_eq_true c63
                                          have c63b1 : decide (0 ≤ x6_2.length) = true := decide_eq_true (by omega)
                                          clear c63
                                          by_cases c64 : (x6_2.length : Int) < (x4_7.length : Int)
                                          ·rw [if_pos c64] at H
                                           have c64b0 : decide ((x6_2.length : Int) < (x4_7.length : Int)) = true := decide_eq_true c64
                                           have c64b1 : decide (x6_2.length < x4_7.length) = true := decide_eq_true (Int.ofNat_lt.mp c64)
                                           clear c64
                                           by_cases c65 : x138_7 < ((rd_L1 x4_7 (x6_2.length : Int)).length : Int)
                                           ·rw [if_pos c65] at H
                                            have c65b0 : decide (x138_7 < ((rd_L1 x4_7 (x6_2.length : Int)).length : Int)) = true := decide_eq_true c65
                                            clear c65
                                            replace H := Option.bind_eq_some_iff.mp H
                                            obtain ⟨t140, A660, H⟩ := H
                                            replace H : (matrix_reduce.l5 k7 (x4_7.set (x116_5 : Int).toNat ((rd_L1 x4_7 x116_5).set (x138_7 : Int).toNat (Go.bits .xor .u8 (rd (rd_L1 x4_7 x116_5) x138_7) t140))) x6_3 x45_2 (x6_2.length : Int) x116_5 (rd (rd_L1 x4_5 x116_5) x45_2) t111 x45_2 (x4_4.length : Int) x116_5 ((rd_L1 x4_5 x116_5).length : Int) (wrap64 (x138_7 + 1))) = some (r1, r2) := H
                                            have A66 := Aside0.mk A660
                                            clear A660
                                            obtain ⟨y141, hy141⟩ : ∃ y_ : List Int, y_ = ((rd_L1 x4_7 x116_5).set (x138_7 : Int).toNat (Go.bits .xor .u8 (rd (rd_L1 x4_7 x116_5) x138_7) t140)) := ⟨_, rfl⟩
                                            replace H : (matrix_reduce.l5 k7 (x4_7.set (x116_5 : Int).toNat y141) x6_3 x45_2 (x6_2.length : Int) x116_5 (rd (rd_L1 x4_5 x116_5) x45_2) t111 x45_2 (x4_4.length : Int) x116_5 ((rd_L1 x4_5 x116_5).length : Int) (wrap64 (x138_7 + 1))) = some (r1, r2) := by first | (rw [hy141]; with_reducible exact H) | (have H2_ := (Option.bind_some _ _).symm.trans H; rw [hy141]; with_reducible exact H2_) | (have H2_ := (Option.bind_some _ _).symm.trans H; with_reducible exact H2_) | with_reducible exact H | (rw [hy141]; exact H) | exact H
                                            have Ny141 := Aside0.mk hy141
                                            clear hy141
                                            obtain ⟨y143, hy143⟩ : ∃ y_ : List (List Int), y_ = (x4_7.set (x116_5 : Int).toNat y141) := ⟨_, rfl⟩
                                            replace H : (matrix_reduce.l5 k7 y143 x6_3 x45_2 (x6_2.length : Int) x116_5 (rd (rd_L1 x4_5 x116_5) x45_2) t111 x45_2 (x4_4.length : Int) x116_5 ((rd_L1 x4_5 x116_5).length : Int) (wrap64 (x138_7 + 1))) = some (r1, r2) := by first | (rw [hy143]; with_reducible exact H) | (have H2_ := (Option.bind_some _ _).symm.trans H; rw [hy143]; with_reducible exact H2_) | (have H2_ := (Option.bind_some _ _).symm.trans H; with_reducible exact H2_) | with_reducible exact H | (rw [hy143]; exact H) | exact H
                                            have Ny143 := Aside0.mk hy143
                                            clear hy143
                                            have H' := Aside0.mk H
                                            clear H
                                            try go_wp2_with (first | (go_step3))
                                            have n0_ := Aside0.mk (Kd.S_drew HO_4.out)
                                            have n1_ := Aside0.mk (Kd.R_drew HO_6.out)
                                            have n2_ := Aside0.mk (below_drew1 HB.out)
                                            clear HO_4
                                            clear HO_6
                                            clear HB
                                            have HO_4 := n0_
                                            have HO_6 := n1_
                                            have HB := n2_
                                            clear n0_ n1_ n2_
                                            have p136 : 0 ≤ (x116_5 : Int) := of_decide_eq_true (by first | (with_reducible assumption) | assumption)
                                            have q136 : x116_5 < (x4_7.length : Int) := of_decide_eq_true (by first | (with_reducible assumption) | assumption)
                                            obtain ⟨ad136, A136_0, c136_0, e136, hx136_0, hl136_0, hi136_0⟩ := at_L1 (Kd.S_reads' HO_4.out).2.2 x116_5 p136 q136
                                            obtain rfl : ad115 = ad136 := (by injection e136)
                                            obtain ⟨ce136, hce136, hMe136, hcc136⟩ := Kd.S_get HO_4.out [] x116_5 p136 (by first | exact q136 | exact of_decide_eq_true (by first | (with_reducible assumption) | assumption) | (have e_ := (Kd.S_reads' HO_4.out).1; omega))
                                            obtain ⟨ve136_0, rfl, ge136_0⟩ := hMe136
                                            have hv136_0 := hcc136 0 _ rfl
                                            rw [Nat.add_zero, show ((Kd.slice 5 (Kd.int .u8))).sz = 1 from rfl, Nat.mul_one] at hv136_0
                                            replace hv136_0 := Option.some.inj (hv136_0.symm.trans hx136_0)
                                            rw [hv136_0] at ge136_0
                                            have HL136_0 := Aside0.mk (show Kd.R (Kd.int .u8) 5 _ _ _ _ (rd_L1 x4_7 x116_5) from ge136_0)
                                            clear hv136_0 ge136_0
                                            have HX136_0 := Aside0.mk hx136_0
                                            clear hcc136 hce136
                                            have HR136_0 := Aside0.mk hi136_0
                                            have HC136_0 := Aside0.mk hl136_0
                                            clear hi136_0 hl136_0
                                            replace p136 := eq_true p136
                                            replace q136 := eq_true q136
                                            have p137 : 0 ≤ (x138_7 : Int) := of_decide_eq_true (by first | (with_reducible assumption) | assumption)
                                            have q137 : x138_7 < ((rd_L1 x4_7 x116_5).length : Int) := of_decide_eq_true (by first | (with_reducible assumption) | assumption)
                                            obtain ⟨ad137, e137, hx137_0⟩ := Kd.at_int (by repeat (first | (with_reducible exact HR136_0.out) | (with_reducible refine Kd.C_alloc ?_ _) | (with_reducible refine Kd.C_drewN ?_ _) | (with_reducible refine Kd.C_drew ?_) | exact HR136_0.out)) x138_7 p137 q137
                                            cases e137
                                            replace p137 := eq_true p137
                                            replace q137 := eq_true q137
                                            have p138 : 0 ≤ ((x6_2.length : Int) : Int) := of_decide_eq_true (by first | (with_reducible assumption) | assumption)
                                            have q138 : (x6_2.length : Int) < (x4_7.length : Int) := of_decide_eq_true (by first | (with_reducible assumption) | assumption)
                                            obtain ⟨ad138, A138_0, c138_0, e138, hx138_0, hl138_0, hi138_0⟩ := at_L1 (Kd.S_reads' HO_4.out).2.2 (x6_2.length : Int) p138 q138
                                            obtain rfl : ad115 = ad138 := (by injection e138)
                                            obtain ⟨ce138, hce138, hMe138, hcc138⟩ := Kd.S_get HO_4.out [] (x6_2.length : Int) p138 (by first | exact q138 | exact of_decide_eq_true (by first | (with_reducible assumption) | assumption) | (have e_ := (Kd.S_reads' HO_4.out).1; omega))
                                            obtain ⟨ve138_0, rfl, ge138_0⟩ := hMe138
                                            have hv138_0 := hcc138 0 _ rfl
                                            rw [Nat.add_zero, show ((Kd.slice 5 (Kd.int .u8))).sz = 1 from rfl, Nat.mul_one] at hv138_0
                                            replace hv138_0 := Option.some.inj (hv138_0.symm.trans hx138_0)
                                            rw [hv138_0] at ge138_0
                                            have HL138_0 := Aside0.mk (show Kd.R (Kd.int .u8) 5 _ _ _ _ (rd_L1 x4_7 (x6_2.length : Int)) from ge138_0)
                                            clear hv138_0 ge138_0
                                            have HX138_0 := Aside0.mk hx138_0
                                            clear hcc138 hce138
                                            have HR138_0 := Aside0.mk hi138_0
                                            have HC138_0 := Aside0.mk hl138_0
                                            clear hi138_0 hl138_0
                                            (try simp only [Go.IntWalk.toNatUp] at hx138_0)
                                            (try simp only [hl4_4, hl4_5, hl4_7] at p138)
                                            (try simp only [hl4_4, hl4_5, hl4_7] at q138)
                                            (try simp only [hl4_4, hl4_5, hl4_7] at hx138_0)
                                            replace p138 := eq_true p138
                                            replace q138 := eq_true q138
                                            have p139 : 0 ≤ (x138_7 : Int) := of_decide_eq_true (by first | (with_reducible assumption) | assumption)
                                            have q139 : x138_7 < ((rd_L1 x4_7 (x6_2.length : Int)).length : Int) := of_decide_eq_true (by first | (with_reducible assumption) | assumption)
                                            obtain ⟨ad139, e139, hx139_0⟩ := Kd.at_int (by repeat (first | (with_reducible exact HR138_0.out) | (with_reducible refine Kd.C_alloc ?_ _) | (with_reducible refine Kd.C_drewN ?_ _) | (with_reducible refine Kd.C_drew ?_) | exact HR138_0.out)) x138_7 p139 q139
                                            cases e139
                                            replace p139 := eq_true p139
                                            replace q139 := eq_true q139
                                            refine start_ (n := 19) (S := fun w' => w'.cell? (ad115.add (x116_5).toNat) = some (.slice (some ad137) (rd_L1 x4_7 x116_5).length c136_0) ∧ w'.cell? (ad137.add (x138_7).toNat) = some (.int .u8 (rd (rd_L1 x4_7 x116_5) x138_7)) ∧ w'.cell? (ad115.add ((x6_2.length : Int)).toNat) = some (.slice (some ad139) (rd_L1 x4_7 (x6_2.length : Int)).length c138_0) ∧ w'.cell? (ad139.add (x138_7).toNat) = some (.int .u8 (rd (rd_L1 x4_7 (x6_2.length : Int)) x138_7))) (ds := [18]) #[false, false, false, false, false, false, false, false, false, false, false, false, false, false, false, false, false, false, false] (by kernel_rfl) rfl rfl ⟨hx136_0, hx137_0, hx138_0, hx139_0⟩ (fun hHeld => ?_); refine with_tabW matrix_reduce.tab32 matrix_reduce.bits32 (fun HT_ HW_ => ?_)
                                            generalize wr.drew = w68 at HO_4 HO_6 HB HL136_0 HL138_0 HR136_0 HR138_0 HX136_0 HX138_0 hx136_0 hx137_0 hx138_0 hx139_0 hHeld ⊢
                                            refine pure_ (i := 0) (N := some 141) (v := ?_) (a' := ?_) #[true, false, false, false, false, false, false, false, false, false, false, false, false, false, false, false, false, false, false] rfl rfl (any_of HT_.out (by kernel_rfl)) (fun _ _ _ h => h) (Or.inl ⟨by rfl, ?_⟩) ?_ ?_
                                            rotate_left
                                            ·intro w'
                                             go_simp
                                             with_reducible rfl
                                            rotate_left
                                            ·simp only [Act.put, List.setIfInBounds_toArray, List.set_cons_zero, List.set_cons_succ, i64_w, i32_w]
                                             rfl
                                            refine pure_ (i := 1) (N := some 142) (v := ?_) (a' := ?_) #[true, true, false, false, false, false, false, false, false, false, false, false, false, false, false, false, false, false, false] rfl rfl (any_of HT_.out (by kernel_rfl)) (fun _ _ _ h => h) (Or.inl ⟨by rfl, ?_⟩) ?_ ?_
                                            rotate_left
                                            ·intro w'
                                             go_simp
                                             with_reducible rfl
                                            rotate_left
                                            ·simp only [Act.put, List.setIfInBounds_toArray, List.set_cons_zero, List.set_cons_succ, i64_w, i32_w]
                                             rfl
                                            refine pure_ (i := 2) (N := some 143) (v := ?_) (a' := ?_) #[true, true, true, false, false, false, false, false, false, false, false, false, false, false, false, false, false, false, false] rfl rfl (any_of HT_.out (by kernel_rfl)) (fun _ _ _ h => h) (Or.inl ⟨by rfl, ?_⟩) ?_ ?_
                                            rotate_left
                                            ·intro w'
                                             go_simp
                                             with_reducible rfl
                                            rotate_left
                                            ·simp only [Act.put, List.setIfInBounds_toArray, List.set_cons_zero, List.set_cons_succ, i64_w, i32_w]
                                             rfl
                                            refine pure_ (i := 4) (N := some 145) (v := ?_) (a' := ?_) #[true, true, true, false, true, false, false, false, false, false, false, false, false, false, false, false, false, false, false] rfl rfl (any_of HT_.out (by kernel_rfl)) (fun _ _ _ h => h) (Or.inl ⟨by rfl, ?_⟩) ?_ ?_
                                            rotate_left
                                            ·intro w'
                                             go_simp
                                             with_reducible rfl
                                            rotate_left
                                            ·simp only [Act.put, List.setIfInBounds_toArray, List.set_cons_zero, List.set_cons_succ, i64_w, i32_w]
                                             rfl
                                            refine pure_ (i := 7) (N := some 148) (v := ?_) (a' := ?_) #[true, true, true, false, true, false, false, true, false, false, false, false, false, false, false, false, false, false, false] rfl rfl (any_of HT_.out (by kernel_rfl)) (fun _ _ _ h => h) (Or.inl ⟨by rfl, ?_⟩) ?_ ?_
                                            rotate_left
                                            ·intro w'
                                             go_simp
                                             with_reducible rfl
                                            rotate_left
                                            ·simp only [Act.put, List.setIfInBounds_toArray, List.set_cons_zero, List.set_cons_succ, i64_w, i32_w]
                                             rfl
                                            refine pure_ (i := 8) (N := some 149) (v := ?_) (a' := ?_) #[true, true, true, false, true, false, false, true, true, false, false, false, false, false, false, false, false, false, false] rfl rfl (any_of HT_.out (by kernel_rfl)) (fun _ _ _ h => h) (Or.inl ⟨by rfl, ?_⟩) ?_ ?_
                                            rotate_left
                                            ·intro w'
                                             go_simp
                                             with_reducible rfl
                                            rotate_left
                                            ·simp only [Act.put, List.setIfInBounds_toArray, List.set_cons_zero, List.set_cons_succ, i64_w, i32_w]
                                             rfl
                                            refine pure_ (i := 9) (N := some 150) (v := ?_) (a' := ?_) #[true, true, true, false, true, false, false, true, true, true, false, false, false, false, false, false, false, false, false] rfl rfl (any_of HT_.out (by kernel_rfl)) (fun _ _ _ h => h) (Or.inl ⟨by rfl, ?_⟩) ?_ ?_
                                            rotate_left
                                            ·intro w'
                                             go_simp
                                             with_reducible rfl
                                            rotate_left
                                            ·simp only [Act.put, List.setIfInBounds_toArray, List.set_cons_zero, List.set_cons_succ, i64_w, i32_w]
                                             rfl
                                            refine pure_ (i := 10) (N := some 151) (v := ?_) (a' := ?_) #[true, true, true, false, true, false, false, true, true, true, true, false, false, false, false, false, false, false, false] rfl rfl (any_of HT_.out (by kernel_rfl)) (fun _ _ _ h => h) (Or.inl ⟨by rfl, ?_⟩) ?_ ?_
                                            rotate_left
                                            ·intro w'
                                             go_simp
                                             with_reducible rfl
                                            rotate_left
                                            ·simp only [Act.put, List.setIfInBounds_toArray, List.set_cons_zero, List.set_cons_succ, i64_w, i32_w]
                                             rfl
                                            refine pure_ (i := 12) (N := some 153) (v := ?_) (a' := ?_) #[true, true, true, false, true, false, false, true, true, true, true, false, true, false, false, false, false, false, false] rfl rfl (any_of HT_.out (by kernel_rfl)) (fun _ _ _ h => h) (Or.inl ⟨by rfl, ?_⟩) ?_ ?_
                                            rotate_left
                                            ·intro w'
                                             go_simp
                                             with_reducible rfl
                                            rotate_left
                                            ·simp only [Act.put, List.setIfInBounds_toArray, List.set_cons_zero, List.set_cons_succ, i64_w, i32_w]
                                             rfl
                                            refine take_ (i := 3) (N := some 144) (v := ?_) (a' := ?_) #[true, true, true, true, true, false, false, true, true, true, true, false, true, false, false, false, false, false, false] rfl rfl (take_ofW HT_.out HW_.out (by kernel_rfl)) (fun _ _ _ h => h) (Or.inl ⟨by rfl, ?_⟩) hHeld ?_ ?_
                                            rotate_left
                                            ·rintro w' ⟨s0, s1, s2, s3⟩
                                             (try simp only [Int.toNat_natCast] at s0 s1 s2 s3)
                                             go_simp
                                             with_reducible rfl
                                            rotate_left
                                            ·simp only [Act.put, List.setIfInBounds_toArray, List.set_cons_zero, List.set_cons_succ, i64_w, i32_w]
                                             rfl
                                            refine pure_ (i := 5) (N := some 146) (v := ?_) (a' := ?_) #[true, true, true, true, true, true, false, true, true, true, true, false, true, false, false, false, false, false, false] rfl rfl (any_of HT_.out (by kernel_rfl)) (fun _ _ _ h => h) (Or.inl ⟨by rfl, ?_⟩) ?_ ?_
                                            rotate_left
                                            ·intro w'
                                             go_simp
                                             with_reducible rfl
                                            rotate_left
                                            ·simp only [Act.put, List.setIfInBounds_toArray, List.set_cons_zero, List.set_cons_succ, i64_w, i32_w]
                                             rfl
                                            refine take_ (i := 6) (N := some 147) (v := ?_) (a' := ?_) #[true, true, true, true, true, true, true, true, true, true, true, false, true, false, false, false, false, false, false] rfl rfl (take_ofW HT_.out HW_.out (by kernel_rfl)) (fun _ _ _ h => h) (Or.inl ⟨by rfl, ?_⟩) hHeld ?_ ?_
                                            rotate_left
                                            ·rintro w' ⟨s0, s1, s2, s3⟩
                                             (try simp only [Int.toNat_natCast] at s0 s1 s2 s3)
                                             go_simp
                                             with_reducible rfl
                                            rotate_left
                                            ·simp only [Act.put, List.setIfInBounds_toArray, List.set_cons_zero, List.set_cons_succ, i64_w, i32_w]
                                             rfl
                                            refine take_ (i := 11) (N := some 152) (v := ?_) (a' := ?_) #[true, true, true, true, true, true, true, true, true, true, true, true, true, false, false, false, false, false, false] rfl rfl (take_ofW HT_.out HW_.out (by kernel_rfl)) (fun _ _ _ h => h) (Or.inl ⟨by rfl, ?_⟩) hHeld ?_ ?_
                                            rotate_left
                                            ·rintro w' ⟨s0, s1, s2, s3⟩
                                             (try simp only [Int.toNat_natCast] at s0 s1 s2 s3)
                                             go_simp
                                             with_reducible rfl
                                            rotate_left
                                            ·simp only [Act.put, List.setIfInBounds_toArray, List.set_cons_zero, List.set_cons_succ, i64_w, i32_w]
                                             rfl
                                            refine pure_ (i := 13) (N := some 154) (v := ?_) (a' := ?_) #[true, true, true, true, true, true, true, true, true, true, true, true, true, true, false, false, false, false, false] rfl rfl (any_of HT_.out (by kernel_rfl)) (fun _ _ _ h => h) (Or.inl ⟨by rfl, ?_⟩) ?_ ?_
                                            rotate_left
                                            ·intro w'
                                             go_simp
                                             with_reducible rfl
                                            rotate_left
                                            ·simp only [Act.put, List.setIfInBounds_toArray, List.set_cons_zero, List.set_cons_succ, i64_w, i32_w]
                                             rfl
                                            refine take_ (i := 14) (N := some 155) (v := ?_) (a' := ?_) #[true, true, true, true, true, true, true, true, true, true, true, true, true, true, true, false, false, false, false] rfl rfl (take_ofW HT_.out HW_.out (by kernel_rfl)) (fun _ _ _ h => h) (Or.inl ⟨by rfl, ?_⟩) hHeld ?_ ?_
                                            rotate_left
                                            ·rintro w' ⟨s0, s1, s2, s3⟩
                                             (try simp only [Int.toNat_natCast] at s0 s1 s2 s3)
                                             go_simp
                                             with_reducible rfl
                                            rotate_left
                                            ·simp only [Act.put, List.setIfInBounds_toArray, List.set_cons_zero, List.set_cons_succ, i64_w, i32_w]
                                             rfl
                                            refine one_ (i := 15) (N := some 156) #[true, true, true, true, true, true, true, true, true, true, true, true, true, true, true, true, false, false, false] rfl rfl (one_of HT_.out (by kernel_rfl)) (by decide) (fun K hK => ?_)
                                            refine goes_ Tryd.func48 (by kernel_rfl) rfl #[.int .u8 (rd (rd_L1 x4_5 x116_5) x45_2), .int .u8 (rd (rd_L1 x4_7 (x6_2.length : Int)) x138_7)] (by rfl) rfl rfl (by (try simp only [List.map_toArray, List.map_cons, List.map_nil]); first | done | rfl | (simp only [List.length_drop, List.length_take]; rfl)) ?_
                                            with_reducible refine (gf_Mul.calls k7 (rd (rd_L1 x4_5 x116_5) x45_2) (rd (rd_L1 x4_7 (x6_2.length : Int)) x138_7) t140 _ ?side1 A66.out).mono ?_
                                            (case side1 => first | (with_reducible exact HG.out) | (with_reducible exact HighIn.drewN HG.out _) | exact HighIn.below HG.out (by repeat (first | (with_reducible first | exact HB.out | apply below_alloc | apply pw_below_drewN | apply below_drew1) | exact HB.out)) | ((repeat (first | (with_reducible exact HG.out) | (with_reducible apply HighIn.drewN) | (with_reducible apply HighIn.drew) | (with_reducible apply HighIn.alloc))); done))
                                            rintro e w' ⟨rfl, ⟨nd, rfl⟩⟩
                                            refine ⟨_, rfl, ?_⟩
                                            have p67 : 0 ≤ (x138_7 : Int) := of_decide_eq_true (by first | (with_reducible assumption) | assumption)
                                            have q67 : (x138_7 : Int) < (((rd_L1 x4_7 x116_5).length : Int) : Int) := of_decide_eq_true (by first | (with_reducible assumption) | assumption)
                                            obtain ⟨go67, co67, eo67, gb67, gl67, cl67, HG67⟩ := Kd.R_form HL136_0.out (by omega)
                                            (first | cases eo67 | (injection eo67 with ea_ en_ ec_; (first | subst ea_ | (injection ea_ with ea_; subst ea_)); subst ec_; clear en_))
                                            have GB67 := Aside0.mk gb67
                                            have GG67 := Aside0.mk HG67
                                            clear gb67 gl67 HG67
                                            (first | simp only [add_plain] at hx137_0 | skip)
                                            obtain ⟨hx67_0, hf67_0⟩ := Kd.R_celln 0 HL136_0.out (x138_7 : Int) p67 q67
                                            replace p67 := eq_true p67
                                            replace q67 := eq_true q67
                                            have hq69 : (x116_5 : Int) < (x4_7.length : Int) := (by have h_ : (x116_5 : Int) < ((x4_7.length : Int) : Int) := of_decide_eq_true (by first | (with_reducible assumption) | assumption); first | exact h_ | (have e_ := (Kd.S_reads' HO_4.out).1; omega) | simpa only [List.length_set, List.length_set] using h_)
                                            obtain ⟨oki69, ce69, hcl69, hM69, hcc69, hok69, hbk69⟩ := Kd.S_borrow HO_4.out [] (x116_5 : Int) (of_decide_eq_true (by first | (with_reducible assumption) | assumption)) hq69
                                            obtain ⟨ve69_0, rfl, ge69_0⟩ := hM69
                                            have hv69 := hcc69 0 _ rfl
                                            rw [Nat.add_zero, show ((Kd.slice 5 (Kd.int .u8))).sz = 1 from rfl, Nat.mul_one] at hv69
                                            replace hv69 := Option.some.inj (hv69.symm.trans HX136_0.out)
                                            subst hv69
                                            clear hcc69 hcl69
                                            replace ge69_0 := (show Kd.R (Kd.int .u8) 5 _ _ _ _ (rd_L1 x4_7 x116_5) from ge69_0)
                                            have HP69 := Kd.R_putg ge69_0 (x138_7 : Int) (Go.bits .xor .u8 (rd (rd_L1 x4_7 x116_5) x138_7) t140)
                                            rw [← Ny141.out] at HP69
                                            have HS69 := hbk69 HP69.2 (fun k_ e_ => by injection e_ with e_; subst e_; exact ge69_0.1 _ rfl) (x' := y141) (Kd.M_row HP69.1)
                                            rw [← Ny143.out] at HS69
                                            have HQ69 := Aside0.mk HS69
                                            clear HP69 HS69 hbk69 hok69
                                            refine hK.out _ _ ⟨hHeld.1, hHeld.2.1, hHeld.2.2.1, hHeld.2.2.2⟩ (fun hHeld => ?_)
                                            clear hK K
                                            refine norm_ (a' := ?_) ?_ ?_
                                            rotate_left
                                            ·show Act.put _ (some 156) _ = _
                                             simp only [Act.put, List.setIfInBounds_toArray, List.set_cons_zero, List.set_cons_succ, i64_w, i32_w]
                                             rfl
                                            refine pure_ (i := 16) (N := some 157) (v := ?_) (a' := ?_) #[true, true, true, true, true, true, true, true, true, true, true, true, true, true, true, true, true, false, false] rfl rfl (any_of HT_.out (by kernel_rfl)) (fun _ _ _ h => h) (Or.inl ⟨by rfl, ?_⟩) ?_ ?_
                                            rotate_left
                                            ·intro w'
                                             go_simp
                                             with_reducible rfl
                                            rotate_left
                                            ·simp only [Act.put, List.setIfInBounds_toArray, List.set_cons_zero, List.set_cons_succ, i64_w, i32_w]
                                             rfl
                                            refine pure_ (i := 17) (N := some 158) (v := ?_) (a' := ?_) #[true, true, true, true, true, true, true, true, true, true, true, true, true, true, true, true, true, true, false] rfl rfl (any_of HT_.out (by kernel_rfl)) (fun _ _ _ h => h) (Or.inl ⟨by rfl, ?_⟩) ?_ ?_
                                            rotate_left
                                            ·intro w'
                                             go_simp
                                             with_reducible rfl
                                            rotate_left
                                            ·simp only [Act.put, List.setIfInBounds_toArray, List.set_cons_zero, List.set_cons_succ, i64_w, i32_w]
                                             rfl
                                            refine last_ (i := 18) (N := none) #[true, true, true, true, true, true, true, true, true, true, true, true, true, true, true, true, true, true, true] rfl rfl (one_of HT_.out (by kernel_rfl)) (by decide) (fun K hK => ?_)
                                            refine skip_ (w1 := ?_) (by rfl) rfl ?_ ?_
                                            rotate_left
                                            ·go_simp
                                             rfl
                                            refine hK.out _ _ ?_
                                            clear hK K
                                            refine done_ (done_of HT_.out (by kernel_rfl)) ?_
                                            try go_wp2_with (first | (go_step3))
                                            (try simp only [← hl4_7])
                                            go_roundg k7
                                            case measure => have := HK1.out; have := HK2.out; have := HK3.out; have := HK4.out; have := HK5.out; have := HJ52.out; have := HK7.out; omega
                                            case rel => exact ⟨(y143), (wrap64 (x138_7 + 1)), (by first | rfl | (simp; done) | (simp [*]; done)), H', ⟨by have := HK1.out; have := HK2.out; have := HK3.out; have := HK4.out; have := HK5.out; have := HJ52.out; have := HK7.out; omega⟩, ⟨by (try simp only [hl4_4]); (try simp only [hl4_5]); (try simp only [hl4_7]); (with_reducible repeat (first | apply Kd.S_alloc | apply Kd.S_drewN | apply Kd.S_drew)); exact HQ69.out⟩, ⟨by (try simp only [hl4_4]); (try simp only [hl4_5]); (try simp only [hl4_7]); (with_reducible repeat (first | apply Kd.R_alloc | apply Kd.R_drewN | apply Kd.R_drew)); exact Kd.R_mono (Kd.R_far (p := ⟨go67, (x138_7 : Int).toNat, none⟩) (Kd.R_types HO_6.out GG67.out (by decide)) (fun _ hk => hk.2) (.int .u8 (Go.bits .xor .u8 (rd (rd_L1 x4_7 x116_5) x138_7) t140))) (fun _ hk => trivial)⟩, ⟨by repeat (first | (with_reducible first | exact HB.out | apply below_alloc | apply pw_below_drewN | apply below_drew1 | refine below_set ?_ GB67.out) | exact HB.out)⟩⟩
                                           ·rw [if_neg c65] at H
                                            exact absurd H (by simp)
                                          ·rw [if_neg c64] at H
                                           exact absurd H (by simp)
                                         ·rw [if_neg c63] at H
                                          exact absurd H (by simp)
                                        ·rw [if_neg c62] at H
                                         exact absurd H (by simp)
                                       ·rw [if_neg c61] at H
                                        exact absurd H (by simp)
                                      ·rw [if_neg c60] at H
                                       exact absurd H (by simp)
                                     ·rw [if_neg c59] at H
                                      exact absurd H (by simp)
                                    ·rw [if_neg c58] at H
                                     have c58b0 : decide (x138_7 < ((rd_L1 x4_5 x116_5).length : Int)) = false := decide_eq_false c58
                                     have c58b0z := c58b0
                                     (try simp only [hl4_4, hl4_5, hl4_7] at c58b0z)
                                     clear c58
                                     have H' := Aside0.mk H
                                     clear H
                                     go_wp2_with (first | (go_step3))
                                     (try simp only [← hl4_5, ← hl4_7])
                                     go_roundg k7
                                     case measure => have := HK1.out; have := HK2.out; have := HK3.out; have := HK4.out; have := HK5.out; have := HJ52.out; have := HK7.out; omega
                                     case rel => exact ⟨(x4_7), (wrap64 (x116_5 + 1)), (by first | rfl | (simp; done) | (simp [*]; done)), H', ⟨by have := HK1.out; have := HK2.out; have := HK3.out; have := HK4.out; have := HK5.out; have := HJ52.out; have := HK7.out; omega⟩, ⟨by (try simp only [hl4_4]); (try simp only [hl4_5]); (try simp only [hl4_7]); (with_reducible repeat (first | apply Kd.S_alloc | apply Kd.S_drewN | apply Kd.S_drew)); exact HO_4.out⟩, ⟨by (try simp only [hl4_4]); (try simp only [hl4_5]); (try simp only [hl4_7]); (with_reducible repeat (first | apply Kd.R_alloc | apply Kd.R_drewN | apply Kd.R_drew)); exact HO_6.out⟩, ⟨by repeat (first | (with_reducible first | exact HB.out | apply below_alloc | apply pw_below_drewN | apply below_drew1) | exact HB.out)⟩⟩
                                 ·rw [if_neg c57] at H
                                  exact absurd H (by simp)
                                ·rw [if_neg c56] at H
                                 exact absurd H (by simp)
                               ·replace c55 := Bool.eq_false_iff.mpr c55
                                subst c55
                                have H1 : (matrix_reduce.l4 kj52 x4_5 x6_3 x45_2 (x6_2.length : Int) t111 x45_2 (x4_4.length : Int) (wrap64 (x116_5 + 1))) = some (r1, r2) := by rw [if_neg (show ¬ (false = true) by decide)] at H; exact H
                                clear H
                                have H := H1
                                clear H1
                                have H' := Aside0.mk H
                                clear H
                                go_wp2_with (first | (go_step3))
                                (try simp only [← hl4_5])
                                go_roundg kj52
                                case measure => have := HK1.out; have := HK2.out; have := HK3.out; have := HK4.out; have := HK5.out; have := HJ52.out; omega
                                case rel => exact ⟨(x4_5), (wrap64 (x116_5 + 1)), (by first | rfl | (simp; done) | (simp [*]; done)), H', ⟨by have := HK1.out; have := HK2.out; have := HK3.out; have := HK4.out; have := HK5.out; have := HJ52.out; omega⟩, ⟨by (try simp only [hl4_4]); (try simp only [hl4_5]); (with_reducible repeat (first | apply Kd.S_alloc | apply Kd.S_drewN | apply Kd.S_drew)); exact HO_4.out⟩, ⟨by (try simp only [hl4_4]); (try simp only [hl4_5]); (with_reducible repeat (first | apply Kd.R_alloc | apply Kd.R_drewN | apply Kd.R_drew)); exact HO_6.out⟩, ⟨by repeat (first | (with_reducible first | exact HB.out | apply below_alloc | apply pw_below_drewN | apply below_drew1) | exact HB.out)⟩⟩
                            ·rw [if_neg c52] at H
                             exact absurd H (by simp)
                           ·rw [if_neg c51] at H
                            exact absurd H (by simp)
                          ·rw [if_neg c50] at H
                           exact absurd H (by simp)
                         ·rw [if_neg c49] at H
                          exact absurd H (by simp)
                        ·rw [if_neg c48] at H
                         have c48b0 : decide (x116_5 < (x4_4.length : Int)) = false := decide_eq_false c48
                         have c48b0z := c48b0
                         (try simp only [hl4_4, hl4_5] at c48b0z)
                         clear c48
                         by_cases c71 : x6_3.length < 17592186044416
                         ·rw [if_pos c71] at H
                          have LMc71 := Aside0.mk c71
                          clear c71
                          obtain ⟨y130, hy130⟩ : ∃ y_ : List Int, y_ = (x6_3 ++ [x45_2]) := ⟨_, rfl⟩
                          replace H : (matrix_reduce.l1 k5 x4_5 y130 t111 (wrap64 (x45_2 + 1))) = some (r1, r2) := by first | (rw [hy130]; with_reducible exact H) | (have H2_ := (Option.bind_some _ _).symm.trans H; rw [hy130]; with_reducible exact H2_) | (have H2_ := (Option.bind_some _ _).symm.trans H; with_reducible exact H2_) | with_reducible exact H | (rw [hy130]; exact H) | exact H
                          have Ny130 := Aside0.mk hy130
                          clear hy130
                          have H' := Aside0.mk H
                          clear H
                          go_wp2_with (first | ((with_reducible refine gate_builtin (b := .append) (xs := #[.tmp 161, .tmp 163]) rfl ?_); at_builtin; refine Kd.R_append (Kd.int .i64) (w0 := w) w.heap.size rfl (.tmp 161) (.tmp 163) 29 3 (.int .i64 0) 8 rfl Tryd.underlying29 info3 rfl (by decide) (by omega) u6 x6_3 x45_2 [.int .i64 x45_2] (fun _ => True) (fun _ => False) rfl rfl ?aP (fun _ hk => hk.elim) ?aF ?aO ?aB ?aS ?aL ?_; (case aP => exact rfl); (case aB => exact (by repeat (first | (with_reducible first | exact HB.out | apply below_alloc | apply pw_below_drewN | apply below_drew1) | exact HB.out))); (case aF => exact (fun _ _ => trivial)); (case aO => exact (by (with_reducible repeat (first | apply Kd.R_alloc | apply Kd.R_drewN | apply Kd.R_drew)); exact HO_6.out)); (case aS => exact (below_size (by repeat (first | (with_reducible first | exact HB.out | apply below_alloc | apply pw_below_drewN | apply below_drew1) | exact HB.out)))); (case aL => have := LMc71.out; omega); intro v131 w72 ho hb hg hat; rw [← Ny130.out] at ho; have n0_ := Aside0.mk (Kd.S_over' (by (with_reducible repeat (first | apply Kd.S_alloc | apply Kd.S_drewN | apply Kd.S_drew)); exact HO_4.out) (Kd.R_typed (by (with_reducible repeat (first | apply Kd.R_alloc | apply Kd.R_drewN | apply Kd.R_drew)); exact HO_6.out)) (by decide) hg); have n1_ := Aside0.mk (hb); have n2_ := Aside0.mk (ho); clear HO_4; clear HB; clear HO_6; have HO_4 := n0_; have HB := n1_; have HO132 := n2_; clear n0_ n1_ n2_; clear ho hb hg hat) | (go_step3))
                          (try simp only [← hl4_4, ← hl4_5])
                          go_roundg k5
                          case measure => have := HK1.out; have := HK2.out; have := HK3.out; have := HK4.out; have := HK5.out; omega
                          case rel => exact ⟨(x4_5), (y130), (wrap64 (x45_2 + 1)), (by first | rfl | (simp; done) | (simp [*]; done)), H', ⟨by have := HK1.out; have := HK2.out; have := HK3.out; have := HK4.out; have := HK5.out; omega⟩, ⟨by (try simp only [hl4_4]); (try simp only [hl4_5]); (with_reducible repeat (first | apply Kd.S_alloc | apply Kd.S_drewN | apply Kd.S_drew)); exact HO_4.out⟩, ⟨by (try simp only [hl4_4]); (try simp only [hl4_5]); (with_reducible repeat (first | apply Kd.R_alloc | apply Kd.R_drewN | apply Kd.R_drew)); exact HO132.out⟩, ⟨by repeat (first | (with_reducible first | exact HB.out | apply below_alloc | apply pw_below_drewN | apply below_drew1) | exact HB.out)⟩⟩
                         ·rw [if_neg c71] at H
                          exact absurd H (by simp)
                  ·rw [if_neg c33] at H
                   exact absurd H (by simp)
                 ·rw [if_neg c32] at H
                  exact absurd H (by simp)
                ·rw [if_neg c31] at H
                 exact absurd H (by simp)
              ·rw [if_neg c27] at H
               exact absurd H (by simp)
             ·rw [if_neg c26] at H
              exact absurd H (by simp)
            ·rw [if_neg c25] at H
             exact absurd H (by simp)
           ·rw [if_neg c24] at H
            have c24b0 : decide (x9_3 < (x4_3.length : Int)) = false := decide_eq_false c24
            clear c24
            have H' := Aside0.mk H
            clear H
            obtain ⟨Ao73, co73, eo73⟩ := Kd.S_slice HO_4.out
            subst eo73
            go_wp2_with (first | (go_step3))
            go_roundg k3
            case measure => have := HK1.out; have := HK2.out; have := HK3.out; omega
            case rel => exact ⟨(x4_3), (x6_3), (wrap64 (x45_2 + 1)), (by first | rfl | (simp; done) | (simp [*]; done)), H', ⟨by have := HK1.out; have := HK2.out; have := HK3.out; omega⟩, ⟨by (with_reducible repeat (first | apply Kd.S_alloc | apply Kd.S_drewN | apply Kd.S_drew)); exact HO_4.out⟩, ⟨by (with_reducible repeat (first | apply Kd.R_alloc | apply Kd.R_drewN | apply Kd.R_drew)); exact HO_6.out⟩, ⟨by repeat (first | (with_reducible first | exact HB.out | apply below_alloc | apply pw_below_drewN | apply below_drew1) | exact HB.out)⟩⟩
        ·rw [if_neg c22] at H
         have c22b0 : decide (x45_2 < t111) = false := decide_eq_false c22
         clear c22
         by_cases c74 : 0 ≤ (x6_2.length : Int)
         ·rw [if_pos c74] at H
          have c74b0 := eq_true c74
          have c74b1 : decide (0 ≤ (x6_2.length : Int)) = true := decide_eq_true c74
          clear c74
          by_cases c75 : (x6_2.length : Int) ≤ (x4_2.length : Int)
          ·rw [if_pos c75] at H
           have c75b0 := eq_true c75
           have c75b1 : decide ((x6_2.length : Int) ≤ (x4_2.length : Int)) = true := decide_eq_true c75
           clear c75
           obtain ⟨y112, hy112⟩ : ∃ y_ : List (List Int), y_ = (x4_2.take ((x6_2.length : Int) : Int).toNat) := ⟨_, rfl⟩
           replace H : (some (y112, x6_2)) = some (r1, r2) := by first | (rw [hy112]; with_reducible exact H) | (have H2_ := (Option.bind_some _ _).symm.trans H; rw [hy112]; with_reducible exact H2_) | (have H2_ := (Option.bind_some _ _).symm.trans H; with_reducible exact H2_) | with_reducible exact H | (rw [hy112]; exact H) | exact H
           have Ny112 := Aside0.mk hy112
           clear hy112
           simp only [Option.some.injEq, Prod.mk.injEq] at H
           obtain ⟨rfl, rfl⟩ := H
           obtain ⟨Ao76, co76, eo76⟩ := Kd.R_slice HO_6.out
           subst eo76
           obtain ⟨Ao77, co77, eo77⟩ := Kd.S_slice HO_4.out
           subst eo77
           have q78 : ((x6_2.length : Int) : Int) ≤ ((x4_2.length : Int) : Int) := of_decide_eq_true (by first | (with_reducible assumption) | assumption)
           obtain ⟨i078, hi078, _, hsz78, _⟩ := info_parts info43
           have hcut78 := cut_to (P := Tryd.prog) 22 43 .i64 Tryd.underlying22 hi078 Ao77 x4_2.length co77 (x6_2.length : Int) (of_decide_eq_true (by first | (with_reducible assumption) | assumption)) q78 (Kd.S_reads' HO_4.out).2.1
           have hr78 := Kd.S_take (m := ((x6_2.length : Int) : Int).toNat) HO_4.out (by omega)
           have hy78 : y112.length = ((x6_2.length : Int) : Int).toNat := (by rw [Ny112.out, List.length_take]; omega)
           rw [← Ny112.out] at hr78
           rw [← hy78] at hr78 hcut78
           clear hy78 hi078 hsz78 HO_4
           have HO114 := Aside0.mk hr78
           clear hr78
           replace q78 := eq_true q78
           go_wp2_with (first | (go_step3))
           (try simp only [Exit.inBlock, Exit.then, Exit.noGoto])
           go_ret2
           exact ⟨_, _, by first | rfl | (simp [errW_none, errW_some] <;> rfl) | (simp [*, errW_none, errW_some] <;> rfl), by (with_reducible repeat (first | apply Kd.S_alloc | apply Kd.S_drewN | apply Kd.S_drew)); exact HO114.out, by (with_reducible repeat (first | apply Kd.R_alloc | apply Kd.R_drewN | apply Kd.R_drew)); exact HO_6.out, by repeat (first | (with_reducible first | exact HB.out | apply below_alloc | apply pw_below_drewN | apply below_drew1) | exact HB.out)⟩
          ·rw [if_neg c75] at H
           exact absurd H (by simp)
         ·rw [if_neg c74] at H
          exact absurd H (by simp)
  ·rw [if_neg c3] at H
   exact absurd H (by simp)
 ·rw [if_neg c2] at H
  exact absurd H (by simp)
end Go.Proofs.YtijebgceopddmaaDoor.Prt
end
section
set_option linter.unusedVariables false
namespace Go.Proofs.YtijebgceopddmaaDoor.Grid
open Go.RowKit Go.Proofs.YtijebgceopddmaaDoorW.PrintWords Go.Proofs.YtijebgceopddmaaDoorW.PrintLast
class AtF where
  num : FuncId
  fn : Func
  cap : Array Value
  f : Int → Int → Option Int
  hf : Tryd.prog.funcs[num]? = some fn
  hname : (fn.name == "runtime.NumGoroutine") = false
  hb : fn.body.isSome = true
variable [AtF]
def HighIn (w : World) : Prop := ∀ W, Below w.heap.size w W → ∀ i k r, AtF.f i k = some r → Calls Tryd.prog AtF.num (#[.int .i64 i, .int .i64 k] ++ AtF.cap) W fun e W' => e = .returned (.int .u8 r) ∧ Drawn0 W W'
theorem HighIn.below {w w1 : World} (h : HighIn w) (hb : Below w.heap.size w w1) : HighIn w1 := fun W hW => h W (hb.trans ⟨hW.os, hW.tape, hW.output, hW.size, fun k hk => hW.block k (Nat.lt_of_lt_of_le hk hb.size)⟩)
def AT.f (i k : Int) : Option Int := AtF.f i k
theorem AT.calls (i k r : Int) (w : World) (hG : HighIn w) (h : AT.f i k = some r) : Calls Tryd.prog AtF.num (#[.int .i64 i, .int .i64 k] ++ AtF.cap) w fun e W' => e = .returned (.int .u8 r) ∧ Drawn0 w W' := hG w (Below.refl _ _) i k r h
theorem goesAt_ {ops : Array Oper} {Q : Exit → Act → World → Prop} {oi : Oper} {N : Option Tmp} {a : Act} {w : World} {K : Act → World → Prop} {x : Operand} {xs : Array Operand} {ts : Array TypeId} (args : Array Value)
    (hw : Region.wanted oi (yielded ops a.tmps) = true) (hN : oi.dst = N) (hop : oi.op = .call { callee := .value x, args := xs, argTypes := ts }) (hargs : xs.map a.eval = args) (hx : a.eval x = .func (.func AtF.num) #[] AtF.cap)
    (h : Calls Tryd.prog AtF.num (args ++ AtF.cap) w fun e w' => ∃ v, e = .returned v ∧ K (a.put N v) w') : if Region.wanted oi (yielded ops a.tmps) = true then Oper.wp Tryd.prog oi a w K Q else K (a.put N undef) w := by
  refine call_ AtF.num (args ++ AtF.cap) hw hN ?_ h
  have he := enters_ AtF.hf AtF.hname AtF.hb (args ++ AtF.cap) w
  unfold execOp
  simp [hop, resolve, Deferred.ofValue, invoke, hx, hargs, he]
end Go.Proofs.YtijebgceopddmaaDoor.Grid
end
section
namespace Go.Proofs.YtijebgceopddmaaDoor.Grid
open Go.RowKit Go.Proofs.YtijebgceopddmaaDoorW.PrintWords Go.Proofs.YtijebgceopddmaaDoorW.PrintLast Go.Proofs.YtijebgceopddmaaDoorW.PrintMore
attribute [local go_sem] max2_int min2_int max_two min_two max_three min_three max_four min_four   -- for this text's walks alone
set_option linter.unusedVariables false
set_option linter.unusedSimpArgs false
def errW : Option Int → Value
 | none => .nilIface
 | some c => .iface 0 (.int .i64 c)
theorem errW_none : errW none = .nilIface := rfl
theorem errW_some (c : Int) : errW (some c) = .iface 0 (.int .i64 c) := rfl
theorem info5 : (Tryd.prog.info? 5).map (fun i => (i.zero, i.size, i.bytes)) = some (some (.int .u8 0), 1, 1) := by kernel_rfl
theorem info43 : (Tryd.prog.info? 43).map (fun i => (i.zero, i.size, i.bytes)) = some (some (.slice none 0 0), 1, 24) := by kernel_rfl
-- the values' own types
def rd_L1 (xs : List (List Int)) (i : Int) : (List Int) := xs.getD i.toNat ([] : List Int)
theorem at_L1 {w : World} {A : Option Addr} {n : Nat} {xs : List (List Int)} (h : Kd.C (Kd.slice 5 (Kd.int .u8)) w A n xs) (i : Int) (h0 : 0 ≤ i) (h1 : i < n) : ∃ ad A0 c0, A = some ad ∧ w.cell? (ad.add i.toNat) = some (.slice A0 (rd_L1 xs i).length c0) ∧ (rd_L1 xs i).length ≤ c0 ∧ (Kd.int .u8).C w A0 (rd_L1 xs i).length (rd_L1 xs i) := by
 obtain ⟨ad, c, e, _, hK, hc0⟩ := Kd.C_get h ([] : List Int) i h0 h1
 have hc : ∀ j u, c[j]? = some u → w.cell? (ad.add (i.toNat * 1 + j)) = some u := hc0
 obtain ⟨A0, c0, rfl, l0, g0⟩ := hK
 exact ⟨ad, A0, c0, e, by have hq := hc 0 _ rfl; rwa [Nat.mul_one, Nat.add_zero] at hq, l0, g0⟩
end Go.Proofs.YtijebgceopddmaaDoor.Grid
end
