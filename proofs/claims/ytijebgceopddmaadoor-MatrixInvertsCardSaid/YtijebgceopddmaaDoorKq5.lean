/- Parts of the proof, laid together by a program of this session: MMat, GfPure, MLin2, MMat2, MMat3, Fn1, Fn2, Fn3, Fn4, AxArg, AxLaw, LawB, Law7. -/
import Derived.Test.YtijebgceopddmaaDoorKq4
import Derived.Test.YtijebgceopddmaaDoorKq1
import Derived.Test.YtijebgceopddmaaDoorKq2
import Derived.Test.YtijebgceopddmaaDoorKq3
import Derived.Test.YtijebgceopddmaaDoorKq0
import Derived.DataReads
import GoSem.ClaimChange
import Derived.Test.YtijebgceopddmaaDoorRows
import Derived.ProofKit
import Derived.LaidMore
import Derived.OpenShut
import Derived.Stop.Joined
set_option linter.unusedVariables false
set_option linter.unusedSimpArgs false
section
set_option linter.unusedVariables false
namespace QMat
open QLin QGf
abbrev Grid := List (List Int)
def el (m : Grid) (i j : Nat) : Int := (m.getD i []).getD j 0
def mulI (a b : Int) : Int := ((gm a.toNat b.toNat : Nat) : Int)
def xorI (a b : Int) : Int := ((a.toNat ^^^ b.toNat : Nat) : Int)
def invI (a : Int) : Int := ((ginv a.toNat : Nat) : Int)
def fb (x : Int) : B := toB x.toNat
def bI (b : B) : Int := ((b.1 : Nat) : Int)
def Byte (x : Int) : Prop := 0 ≤ x ∧ x < 256
theorem fb_bI (b : B) : fb (bI b) = b := by unfold fb bI; rw [Int.toNat_natCast, toB_self]
theorem bI_fb {x : Int} (h : Byte x) : bI (fb x) = x := by
  unfold fb bI; rw [toB_val (by have := h.2; have := h.1; omega)]; have := h.1; omega
theorem fb_inj {x y : Int} (hx : Byte x) (hy : Byte y) (h : fb x = fb y) : x = y := by rw [← bI_fb hx, ← bI_fb hy, h]
theorem byte_bI (b : B) : Byte (bI b) := ⟨by unfold bI; omega, by have := b.2; unfold bI; omega⟩
theorem byte_zero : Byte 0 := ⟨by omega, by omega⟩
theorem fb_zero : fb 0 = Fl.zero := rfl
theorem fb_ne {x : Int} (hx : Byte x) : x ≠ 0 ↔ fb x ≠ Fl.zero := by
  rw [← fb_zero]; exact ⟨fun h e => h (fb_inj hx byte_zero e), fun h e => h (by rw [e])⟩
theorem mulI_bI (a b : Int) (ha : Byte a) (hb : Byte b) : mulI a b = bI (fb a * fb b) := by
  have h1 : (fb a).1 = a.toNat := toB_val (by have := ha.2; omega)
  have h2 : (fb b).1 = b.toNat := toB_val (by have := hb.2; omega)
  show ((gm a.toNat b.toNat : Nat) : Int) = ((gm (fb a).1 (fb b).1 : Nat) : Int)
  rw [h1, h2]
theorem xorI_bI (a b : Int) (ha : Byte a) (hb : Byte b) : xorI a b = bI (fb a + fb b) := by
  have h1 : (fb a).1 = a.toNat := toB_val (by have := ha.2; omega)
  have h2 : (fb b).1 = b.toNat := toB_val (by have := hb.2; omega)
  show ((a.toNat ^^^ b.toNat : Nat) : Int) = (((fb a).1 ^^^ (fb b).1 : Nat) : Int)
  rw [h1, h2]
theorem invI_bI (a : Int) (ha : Byte a) : invI a = bI (Fl.inv (fb a)) := by
  have h1 : (fb a).1 = a.toNat := toB_val (by have := ha.2; omega)
  show ((ginv a.toNat : Nat) : Int) = ((ginv (fb a).1 : Nat) : Int)
  rw [h1]
theorem byte_mulI {a b : Int} (ha : Byte a) (hb : Byte b) : Byte (mulI a b) := by rw [mulI_bI a b ha hb]; exact byte_bI _
theorem byte_xorI {a b : Int} (ha : Byte a) (hb : Byte b) : Byte (xorI a b) := by rw [xorI_bI a b ha hb]; exact byte_bI _
theorem byte_invI {a : Int} (ha : Byte a) : Byte (invI a) := by rw [invI_bI a ha]; exact byte_bI _
theorem fb_mulI {a b : Int} (ha : Byte a) (hb : Byte b) : fb (mulI a b) = fb a * fb b := by rw [mulI_bI a b ha hb, fb_bI]
theorem fb_xorI {a b : Int} (ha : Byte a) (hb : Byte b) : fb (xorI a b) = fb a + fb b := by rw [xorI_bI a b ha hb, fb_bI]
theorem fb_invI {a : Int} (ha : Byte a) : fb (invI a) = Fl.inv (fb a) := by rw [invI_bI a ha, fb_bI]
structure Shape (m : Grid) (h w : Nat) : Prop where
  rows : m.length = h
  cols : ∀ i, i < h → (m.getD i []).length = w
def Bytes (m : Grid) : Prop := ∀ i j, Byte (el m i j)
def build (h w : Nat) (f : Nat → Nat → Int) : Grid := (List.range h).map fun i => (List.range w).map fun j => f i j
theorem build_row (h w : Nat) (f : Nat → Nat → Int) (i : Nat) (hi : i < h) : (build h w f).getD i [] = (List.range w).map fun j => f i j := by
  simp [build, List.getD_eq_getElem?_getD, List.getElem?_map, List.getElem?_range hi]
theorem shape_build (h w : Nat) (f : Nat → Nat → Int) : Shape (build h w f) h w := ⟨by simp [build], fun i hi => by rw [build_row h w f i hi]; simp⟩
theorem el_build (h w : Nat) (f : Nat → Nat → Int) (i j : Nat) (hi : i < h) (hj : j < w) : el (build h w f) i j = f i j := by
  unfold el; rw [build_row h w f i hi]; simp [List.getD_eq_getElem?_getD, List.getElem?_map, List.getElem?_range hj]
theorem el_out {m : Grid} {h w : Nat} (hm : Shape m h w) (i j : Nat) (ho : h ≤ i ∨ w ≤ j) : el m i j = 0 := by
  unfold el
  rcases Nat.lt_or_ge i h with hi | hi
  · rcases ho with ho | ho
    · omega
    · rw [List.getD_eq_getElem?_getD, List.getElem?_eq_none (by rw [hm.cols i hi]; exact ho)]; rfl
  · rw [List.getD_eq_getElem?_getD (l := m), List.getElem?_eq_none (by rw [hm.rows]; exact hi)]; rfl
theorem el_build_any (h w : Nat) (f : Nat → Nat → Int) (i j : Nat) : el (build h w f) i j = if i < h ∧ j < w then f i j else 0 := by
  split
  · rename_i hh; exact el_build h w f i j hh.1 hh.2
  · exact el_out (shape_build h w f) i j (by omega)
theorem bytes_build {h w : Nat} {f : Nat → Nat → Int} (hf : ∀ i j, i < h → j < w → Byte (f i j)) : Bytes (build h w f) := by
  intro i j
  rw [el_build_any]; split
  · rename_i hh; exact hf i j hh.1 hh.2
  · exact byte_zero
theorem row_ext {a b : List Int} (hl : a.length = b.length) (h : ∀ j, j < a.length → a.getD j 0 = b.getD j 0) : a = b := by
  apply List.ext_getElem hl
  intro j h1 h2
  have := h j h1
  simpa [List.getD_eq_getElem?_getD, List.getElem?_eq_getElem h1, List.getElem?_eq_getElem h2] using this
theorem grid_ext {a b : Grid} {h w : Nat} (ha : Shape a h w) (hb : Shape b h w) (he : ∀ i j, i < h → j < w → el a i j = el b i j) : a = b := by
  apply List.ext_getElem (by rw [ha.rows, hb.rows])
  intro i h1 h2
  have hi : i < h := by rw [← ha.rows]; exact h1
  have e1 : a[i] = a.getD i [] := by simp [List.getD_eq_getElem?_getD, List.getElem?_eq_getElem h1]
  have e2 : b[i] = b.getD i [] := by simp [List.getD_eq_getElem?_getD, List.getElem?_eq_getElem h2]
  rw [e1, e2]
  refine row_ext (by rw [ha.cols i hi, hb.cols i hi]) fun j hj => he i j hi (by rw [ha.cols i hi] at hj; exact hj)
theorem build_el {m : Grid} {h w : Nat} (hm : Shape m h w) : build h w (el m) = m := grid_ext (shape_build h w _) hm fun i j hi hj => el_build h w _ i j hi hj
def fn (m : Grid) : Mat B := fun i j => fb (el m i j)
theorem fn_wide {m : Grid} {h w : Nat} (hm : Shape m h w) (i j : Nat) (ho : h ≤ i ∨ w ≤ j) : fn m i j = Fl.zero := by unfold fn; rw [el_out hm i j ho]; rfl
def cols (m : Grid) : Nat := (m.getD 0 []).length
theorem shape_cols {m : Grid} {h w : Nat} (hm : Shape m h w) (hp : 0 < h) : cols m = w := hm.cols 0 hp
theorem shape_self {m : Grid} (hv : ∀ i, i < m.length → (m.getD i []).length = cols m) : Shape m m.length (cols m) := ⟨rfl, hv⟩
def findFrom (m : Grid) (c : Nat) (r : Nat) : Nat → Option Nat
  | 0 => none
  | d + 1 => if el m r c ≠ 0 then some r else findFrom m c (r + 1) d
def find (m : Grid) (r c : Nat) : Option Nat := findFrom m c r (m.length - r)
theorem findFrom_some {m : Grid} {c : Nat} : ∀ {d r k : Nat}, findFrom m c r d = some k → r ≤ k ∧ k < r + d ∧ el m k c ≠ 0 ∧ ∀ i, r ≤ i → i < k → el m i c = 0
  | 0, _, _, h => by cases h
  | d + 1, r, k, h => by
    unfold findFrom at h
    split at h
    · rename_i hne; injection h with h; subst h; exact ⟨by omega, by omega, hne, fun i h1 h2 => by omega⟩
    · rename_i hz
      obtain ⟨h1, h2, h3, h4⟩ := findFrom_some h
      exact ⟨by omega, by omega, h3, fun i h5 h6 => by
        by_cases e : i = r
        · rw [e]; exact Classical.not_not.1 hz
        · exact h4 i (by omega) h6⟩
theorem findFrom_none {m : Grid} {c : Nat} : ∀ {d r : Nat}, findFrom m c r d = none → ∀ i, r ≤ i → i < r + d → el m i c = 0
  | 0, r, _, i, h1, h2 => by omega
  | d + 1, r, h, i, h1, h2 => by
    unfold findFrom at h
    split at h
    · cases h
    · rename_i hz
      by_cases e : i = r
      · rw [e]; exact Classical.not_not.1 hz
      · exact findFrom_none h i (by omega) (by omega)
theorem find_some {m : Grid} {r c k : Nat} (hr : r ≤ m.length) (h : find m r c = some k) : r ≤ k ∧ k < m.length ∧ el m k c ≠ 0 ∧ ∀ i, r ≤ i → i < k → el m i c = 0 := by
  obtain ⟨h1, h2, h3, h4⟩ := findFrom_some h; exact ⟨h1, by omega, h3, h4⟩
theorem find_none {m : Grid} {r c : Nat} (h : find m r c = none) : ∀ i, r ≤ i → i < m.length → el m i c = 0 := fun i h1 h2 => findFrom_none h i h1 (by omega)
def clearG (m : Grid) (r k c : Nat) : Grid := build m.length (cols m) fun i j =>
  if i = r then mulI (invI (el m k c)) (el m k j)
  else xorI (if i = k then el m r j else el m i j) (mulI (if i = k then el m r c else el m i c) (mulI (invI (el m k c)) (el m k j)))
structure St where
  g : Grid
  p : List Nat
def stepG (s : St) (c : Nat) : St := match find s.g s.p.length c with
  | none => s
  | some k => ⟨clearG s.g s.p.length k c, s.p ++ [c]⟩
def elim (m : Grid) : Nat → St
  | 0 => ⟨m, []⟩
  | c + 1 => stepG (elim m c) c
def reduce (m : Grid) : Grid × List Nat := let s := elim m (cols m); (s.g.take s.p.length, s.p)
theorem fn_clearG {m : Grid} {h w : Nat} (hm : Shape m h w) (hb : Bytes m) {r k c : Nat} (hr : r < h) (hk : k < h) (hc : c < w) : fn (clearG m r k c) = clear (fn m) r k c := by
  funext i j
  have hcols : cols m = w := shape_cols hm (by omega)
  show fb (el (clearG m r k c) i j) = _
  unfold clearG
  rw [el_build_any, hm.rows, hcols]
  have bk := hb k j
  have bc := hb k c
  have bi := byte_invI bc
  by_cases hij : i < h ∧ j < w
  · rw [if_pos hij]
    unfold clear
    by_cases e : i = r
    · rw [if_pos e, if_pos e, fb_mulI bi bk, fb_invI bc]; rfl
    · rw [if_neg e, if_neg e]
      by_cases e' : i = k
      · simp only [if_pos e']
        rw [fb_xorI (hb r j) (byte_mulI (hb r c) (byte_mulI bi bk)), fb_mulI (hb r c) (byte_mulI bi bk), fb_mulI bi bk, fb_invI bc]; rfl
      · simp only [if_neg e']
        rw [fb_xorI (hb i j) (byte_mulI (hb i c) (byte_mulI bi bk)), fb_mulI (hb i c) (byte_mulI bi bk), fb_mulI bi bk, fb_invI bc]; rfl
  · rw [if_neg hij]
    unfold clear
    have hz : ∀ i', (h ≤ i' ∨ w ≤ j) → fn m i' j = Fl.zero := fun i' ho => fn_wide hm i' j ho
    by_cases e : i = r
    · rw [if_pos e, hz k (by omega), mul_zero]; rfl
    · rw [if_neg e]
      by_cases e' : i = k
      · rw [if_pos e', if_pos e', hz r (by omega), hz k (by omega), mul_zero, mul_zero, Fl.add_zero]; rfl
      · rw [if_neg e', if_neg e', hz i (by omega)]
        by_cases hj : j < w
        · rw [fn_wide hm i c (by omega), zero_mul, Fl.add_zero]; rfl
        · rw [hz k (by omega), mul_zero, mul_zero, Fl.add_zero]; rfl
theorem shape_clearG {m : Grid} {h w : Nat} (hm : Shape m h w) (hp : 0 < h) (r k c : Nat) : Shape (clearG m r k c) h w := by
  unfold clearG; rw [hm.rows, shape_cols hm hp]; exact shape_build _ _ _
theorem bytes_clearG {m : Grid} (hb : Bytes m) (r k c : Nat) : Bytes (clearG m r k c) := by
  refine bytes_build fun i j _ _ => ?_
  have bm := byte_mulI (byte_invI (hb k c)) (hb k j)
  split
  · exact bm
  · refine byte_xorI ?_ (byte_mulI ?_ bm)
    · split
      · exact hb _ _
      · exact hb _ _
    · split
      · exact hb _ _
      · exact hb _ _
def piv (p : List Nat) (j : Nat) : Nat := p.getD j 0
structure Good (m : Grid) (h w c : Nat) (s : St) : Prop where
  shape : Shape s.g h w
  bytes : Bytes s.g
  part : Part w h c s.p.length (piv s.p) (fn m) (fn s.g)
theorem good_elim {m : Grid} {h w : Nat} (hm : Shape m h w) (hb : Bytes m) : ∀ c, c ≤ w → Good m h w c (elim m c)
  | 0, _ => ⟨hm, hb, Part.start _ _ fun j d _ hd => fn_wide hm j d (.inr hd)⟩
  | c + 1, hc => by
    have ih := good_elim hm hb c (by omega)
    show Good m h w (c + 1) (stepG (elim m c) c)
    unfold stepG
    split
    · rename_i hf
      exact ⟨ih.shape, ih.bytes, ih.part.skip fun k h1 h2 => by
        show fb _ = _
        rw [find_none hf k h1 (by rw [ih.shape.rows]; exact h2)]; rfl⟩
    · rename_i k hf
      obtain ⟨h1, h2, h3, _⟩ := find_some (by rw [ih.shape.rows]; exact ih.part.le) hf
      rw [ih.shape.rows] at h2
      refine ⟨shape_clearG ih.shape (by omega) _ _ _, bytes_clearG ih.bytes _ _ _, ?_⟩
      rw [fn_clearG ih.shape ih.bytes (by omega) h2 (by omega)]
      have hl : ((elim m c).p ++ [c]).length = (elim m c).p.length + 1 := by simp
      show Part w h (c + 1) ((elim m c).p ++ [c]).length _ _ _
      rw [hl]
      refine ih.part.step h1 h2 ((fb_ne (ih.bytes k c)).1 h3) _ (fun j hj => ?_) ?_
      · simp [piv, List.getD_eq_getElem?_getD, List.getElem?_append_left hj]
      · simp [piv, List.getD_eq_getElem?_getD]
theorem reduce_rref {m : Grid} {h w : Nat} (hm : Shape m h w) (hb : Bytes m) (hw : cols m = w) :
    (reduce m).2.length ≤ h ∧ Shape (reduce m).1 (reduce m).2.length w ∧ Bytes (reduce m).1 ∧ Rref w (reduce m).2.length (piv (reduce m).2) (fn (reduce m).1) ∧
      ∀ v, InSpan h (fn m) v ↔ InSpan (reduce m).2.length (fn (reduce m).1) v := by
  have hg := good_elim hm hb w (Nat.le_refl _)
  unfold reduce; rw [hw]
  dsimp only
  generalize hs : elim m w = s at *
  have hle := hg.part.le
  have hrow : ∀ i, i < s.p.length → (s.g.take s.p.length).getD i [] = s.g.getD i [] := fun i hi => by
    simp [List.getD_eq_getElem?_getD, hi]
  have hel : ∀ i j, i < s.p.length → el (s.g.take s.p.length) i j = el s.g i j := fun i j hi => by unfold el; rw [hrow i hi]
  have hsh : Shape (s.g.take s.p.length) s.p.length w := ⟨by rw [List.length_take, hg.shape.rows]; omega, fun i hi => by rw [hrow i hi]; exact hg.shape.cols i (by omega)⟩
  obtain ⟨hR, hspan⟩ := hg.part.rref
  have hfn : ∀ j, j < s.p.length → fn (s.g.take s.p.length) j = fn s.g j := fun j hj => funext fun c => by show fb _ = fb _; rw [hel j c hj]
  refine ⟨hle, hsh, fun i j => ?_, ⟨hR.lt, hR.mono, fun i j hi hj => by rw [hfn j hj]; exact hR.piv i j hi hj, fun j c hj hc => by rw [hfn j hj]; exact hR.low j c hj hc, fun j c hj hc => by rw [hfn j hj]; exact hR.wide j c hj hc⟩, fun v => ?_⟩
  · by_cases hi : i < s.p.length
    · rw [hel i j hi]; exact hg.bytes i j
    · rw [el_out hsh i j (by omega)]; exact byte_zero
  · rw [hspan v]
    exact ⟨InSpan.congr fun k hk c => by rw [hfn k hk], InSpan.congr fun k hk c => by rw [hfn k hk]⟩
theorem reduce_rank {m : Grid} {h w : Nat} (hm : Shape m h w) (hb : Bytes m) (hw : cols m = w) : HasRank w h (fn m) (reduce m).2.length :=
  let ⟨_, _, _, hR, hs⟩ := reduce_rref hm hb hw; ⟨_, _, hR, hs⟩
end QMat
end
section
set_option linter.unusedVariables false
namespace Go.Proofs.YtijebgceopddmaaDoor.Gf
open Go.RowKit Go.Proofs.YtijebgceopddmaaDoorW.PrintWords Go.Proofs.YtijebgceopddmaaDoorW.PrintLast Go.Proofs.YtijebgceopddmaaDoorW.PrintMore
open QGf QMat
theorem ofInt_nat (n : Nat) (k : Nat) : BitVec.ofInt k (n : Int) = BitVec.ofNat k n := by
  apply BitVec.eq_of_toNat_eq; simp
theorem wrap_u64 {n : Nat} (h : n < 18446744073709551616) : IntKind.u64.wrap (n : Int) = n := by unfold IntKind.wrap; simp [IntKind.bits, IntKind.signed]; omega
theorem wrap_u8 {n : Nat} (h : n < 256) : IntKind.u8.wrap (n : Int) = n := by unfold IntKind.wrap; simp [IntKind.bits, IntKind.signed]; omega
theorem xor_u64 {a b : Nat} (ha : a < 18446744073709551616) (hb : b < 18446744073709551616) : Go.bits .xor .u64 (a : Int) (b : Int) = ((a ^^^ b : Nat) : Int) := by
  show IntKind.u64.wrap (((BitVec.ofInt 64 (a : Int) ^^^ BitVec.ofInt 64 (b : Int)).toNat : Nat) : Int) = _
  rw [ofInt_nat, ofInt_nat, BitVec.toNat_xor, BitVec.toNat_ofNat, BitVec.toNat_ofNat, Nat.mod_eq_of_lt ha, Nat.mod_eq_of_lt hb]
  exact wrap_u64 (Nat.xor_lt_two_pow (n := 64) ha hb)
theorem and_u64 {a b : Nat} (ha : a < 18446744073709551616) (hb : b < 18446744073709551616) : Go.bits .and .u64 (a : Int) (b : Int) = ((a &&& b : Nat) : Int) := by
  show IntKind.u64.wrap (((BitVec.ofInt 64 (a : Int) &&& BitVec.ofInt 64 (b : Int)).toNat : Nat) : Int) = _
  rw [ofInt_nat, ofInt_nat, BitVec.toNat_and, BitVec.toNat_ofNat, BitVec.toNat_ofNat, Nat.mod_eq_of_lt ha, Nat.mod_eq_of_lt hb]
  exact wrap_u64 (Nat.lt_of_le_of_lt Nat.and_le_left ha)
theorem xor_u8 {a b : Nat} (ha : a < 256) (hb : b < 256) : Go.bits .xor .u8 (a : Int) (b : Int) = ((a ^^^ b : Nat) : Int) := by
  show IntKind.u8.wrap (((BitVec.ofInt 8 (a : Int) ^^^ BitVec.ofInt 8 (b : Int)).toNat : Nat) : Int) = _
  rw [ofInt_nat, ofInt_nat, BitVec.toNat_xor, BitVec.toNat_ofNat, BitVec.toNat_ofNat, Nat.mod_eq_of_lt ha, Nat.mod_eq_of_lt hb]
  exact wrap_u8 (xor_lt ha hb)
theorem and_u8 {a b : Nat} (ha : a < 256) (hb : b < 256) : Go.bits .and .u8 (a : Int) (b : Int) = ((a &&& b : Nat) : Int) := by
  show IntKind.u8.wrap (((BitVec.ofInt 8 (a : Int) &&& BitVec.ofInt 8 (b : Int)).toNat : Nat) : Int) = _
  rw [ofInt_nat, ofInt_nat, BitVec.toNat_and, BitVec.toNat_ofNat, BitVec.toNat_ofNat, Nat.mod_eq_of_lt ha, Nat.mod_eq_of_lt hb]
  exact wrap_u8 (Nat.lt_of_le_of_lt Nat.and_le_left ha)
theorem bits_xorI {a b : Int} (ha : Byte a) (hb : Byte b) : Go.bits .xor .u8 a b = xorI a b := by
  obtain ⟨n, rfl⟩ := Int.eq_ofNat_of_zero_le ha.1
  obtain ⟨m, rfl⟩ := Int.eq_ofNat_of_zero_le hb.1
  have := ha.2
  have := hb.2
  rw [xor_u8 (by omega) (by omega)]; rfl
def highN : List Nat := [0, 29, 58, 39, 116, 105, 78, 83, 232, 245, 210, 207, 156, 129, 166, 187]
def redN (x : Nat) : Nat := (x % 256) ^^^ highN.getD ((x / 256) &&& 15) 0
def stepN (a n x j : Nat) : Nat := if (n / 2 ^ j) &&& 1 = 1 then x ^^^ (a * 2 ^ j) else x
def sumN (a n : Nat) : Nat := stepN a n (stepN a n (stepN a n (stepN a n 0 0) 1) 2) 3
theorem highL_N : ∀ j, j < 16 → highL.getD j 0 = ((highN.getD j 0 : Nat) : Int) := by decide +kernel
theorem highN_lt : ∀ j, j < 16 → highN.getD j 0 < 256 := by decide +kernel
theorem and15_lt (n : Nat) : n &&& 15 < 16 := Nat.lt_of_le_of_lt Nat.and_le_right (by omega)
theorem redN_lt (x : Nat) : redN x < 256 := xor_lt (by omega) (highN_lt _ (and15_lt _))
theorem reduce_N {x : Nat} (hx : x < 18446744073709551616) : gf_reduce.f (x : Int) = some ((redN x : Nat) : Int) := by
  unfold gf_reduce.f
  rw [if_pos (by omega)]
  have h1 : ((x : Int) / 256) = ((x / 256 : Nat) : Int) := by omega
  have h2 : ((x : Int) % 256) = ((x % 256 : Nat) : Int) := by omega
  rw [h1, h2, show (15 : Int) = ((15 : Nat) : Int) from rfl, and_u64 (by omega) (by omega), Int.toNat_natCast, highL_N _ (and15_lt _), xor_u8 (by omega) (highN_lt _ (and15_lt _))]
  rfl
theorem shl_N {a j : Nat} (ha : a < 256) (hj : j < 4) : shl .u64 (IntKind.u64.wrap (a : Int)) (j : Int) = ((a * 2 ^ j : Nat) : Int) := by
  unfold shl
  rw [wrap_u64 (by omega), Int.toNat_natCast, show min j IntKind.u64.bits = j from Nat.min_eq_left (by simp [IntKind.bits]; omega)]
  have : ((a : Int) * 2 ^ j) = ((a * 2 ^ j : Nat) : Int) := by simp
  rw [this]
  refine wrap_u64 ?_
  have : 2 ^ j < 2 ^ 4 := Nat.pow_lt_pow_right (by omega) hj
  have h2 : a * 2 ^ j < 256 * 2 ^ 4 := Nat.mul_lt_mul'' ha this
  omega
theorem shr_N {n j : Nat} (hj : j < 4) : shr .u64 (n : Int) (j : Int) = ((n / 2 ^ j : Nat) : Int) := by
  unfold shr
  rw [Int.toNat_natCast, show min j IntKind.u64.bits = j from Nat.min_eq_left (by simp [IntKind.bits]; omega)]
  simp
theorem wrap_succ (j : Nat) (h : j < 1000) : wrap64 ((j : Int) + 1) = ((j + 1 : Nat) : Int) := by unfold wrap64; omega
theorem xor_small {x y : Nat} (hx : x < 4096) (hy : y < 4096) : x ^^^ y < 4096 := Nat.xor_lt_two_pow (n := 12) hx hy
theorem mul_small {a j : Nat} (ha : a < 256) (hj : j < 4) : a * 2 ^ j < 4096 := by
  have : 2 ^ j < 2 ^ 4 := Nat.pow_lt_pow_right (by omega) hj
  exact Nat.mul_lt_mul'' ha this
theorem stepN_lt {a n x j : Nat} (ha : a < 256) (hx : x < 4096) (hj : j < 4) : stepN a n x j < 4096 := by
  unfold stepN; split
  · exact xor_small hx (mul_small ha hj)
  · exact hx
theorem times_step {a n x j k : Nat} (ha : a < 256) (hn : n < 16) (hx : x < 4096) (hj : j < 4) : gf_times.l0 (k + 1) (a : Int) (n : Int) (x : Int) (j : Int) = gf_times.l0 k (a : Int) (n : Int) ((stepN a n x j : Nat) : Int) ((j + 1 : Nat) : Int) := by
  simp only [gf_times.l0]
  rw [if_pos (by omega), if_pos (by omega), shr_N hj, show (1 : Int) = ((1 : Nat) : Int) from rfl, and_u64 (by have := Nat.div_le_self n (2 ^ j); omega) (by omega)]
  have hw : wrap64 ((j : Int) + ((1 : Nat) : Int)) = ((j + 1 : Nat) : Int) := wrap_succ j (by omega)
  rw [hw]
  unfold stepN
  by_cases h : n / 2 ^ j &&& 1 = 1
  · rw [if_pos (by exact_mod_cast h), if_pos h, shl_N ha hj, xor_u64 (by omega) (by have := mul_small ha hj; omega)]
  · rw [if_neg (by exact_mod_cast h), if_neg h]
theorem times_N {a n k : Nat} (ha : a < 256) (hn : n < 16) : gf_times.f (k + 5) (a : Int) (n : Int) = some ((redN (sumN a n) : Nat) : Int) := by
  unfold gf_times.f
  have h0 : (0 : Nat) < 4096 := by omega
  have h1 := stepN_lt (n := n) ha h0 (show 0 < 4 by omega)
  have h2 := stepN_lt (n := n) ha h1 (show 1 < 4 by omega)
  have h3 := stepN_lt (n := n) ha h2 (show 2 < 4 by omega)
  have h4 := stepN_lt (n := n) ha h3 (show 3 < 4 by omega)
  have e0 := times_step (k := k + 4) ha hn h0 (show 0 < 4 by omega)
  have e1 := times_step (k := k + 3) ha hn h1 (show 1 < 4 by omega)
  have e2 := times_step (k := k + 2) ha hn h2 (show 2 < 4 by omega)
  have e3 := times_step (k := k + 1) ha hn h3 (show 3 < 4 by omega)
  rw [show (0 : Int) = ((0 : Nat) : Int) from rfl, e0, e1, e2, e3]
  simp only [gf_times.l0]
  rw [if_neg (by omega), reduce_N (by omega)]
  rfl
theorem times_gm : ∀ a, a < 256 → ∀ n, n < 16 → redN (sumN a n) = gm a n := by decide +kernel
theorem red_gm : ∀ y, y < 256 → redN (y * 16) = gm y 16 := by decide +kernel
theorem split_gm : ∀ b, b < 256 → gm (b / 16) 16 ^^^ (b &&& 15) = b := by decide +kernel
theorem Mul_N {a b k : Nat} (ha : a < 256) (hb : b < 256) : gf_Mul.f (k + 5) (a : Int) (b : Int) = some ((gm a b : Nat) : Int) := by
  unfold gf_Mul.f
  have h1 : IntKind.u64.wrap ((b : Int) / 16) = ((b / 16 : Nat) : Int) := by rw [show (b : Int) / 16 = ((b / 16 : Nat) : Int) by omega]; exact wrap_u64 (by omega)
  have h2 : IntKind.u64.wrap (Go.bits .and .u8 (b : Int) 15) = ((b &&& 15 : Nat) : Int) := by
    rw [show (15 : Int) = ((15 : Nat) : Int) from rfl, and_u8 hb (by omega)]; exact wrap_u64 (by have := and15_lt b; omega)
  rw [h1, times_N ha (by omega)]
  simp only [Option.bind_some]
  rw [times_gm a ha _ (by omega)]
  have hg := gm_lt ha (b / 16)
  have h3 : IntKind.u64.wrap (IntKind.u64.wrap ((gm a (b / 16) : Nat) : Int) * 16) = ((gm a (b / 16) * 16 : Nat) : Int) := by
    rw [wrap_u64 (by omega), show ((gm a (b / 16) : Nat) : Int) * 16 = ((gm a (b / 16) * 16 : Nat) : Int) by omega]; exact wrap_u64 (by omega)
  rw [h3, reduce_N (by omega)]
  simp only [Option.bind_some]
  rw [h2, times_N ha (and15_lt b)]
  simp only [Option.bind_some]
  rw [times_gm a ha _ (and15_lt b), xor_u8 (redN_lt _) (gm_lt ha _), red_gm _ hg, gm_assoc ha (by omega) (by omega), ← gm_right, split_gm b hb]
theorem Mul_f {a b : Int} (ha : Byte a) (hb : Byte b) (k : Nat) (hk : 5 ≤ k) : gf_Mul.f k a b = some (mulI a b) := by
  obtain ⟨n, rfl⟩ := Int.eq_ofNat_of_zero_le ha.1
  obtain ⟨m, rfl⟩ := Int.eq_ofNat_of_zero_le hb.1
  have := ha.2
  have := hb.2
  obtain ⟨d, rfl⟩ : ∃ d, k = d + 5 := ⟨k - 5, by omega⟩
  rw [Mul_N (by omega) (by omega)]; rfl
theorem seven {a b c d e f g : Nat} (ha : a < 256) (hb : b < 256) (hc : c < 256) (hd : d < 256) (he : e < 256) (hf : f < 256) (hg : g < 256) :
    gm (gm (gm (gm (gm (gm (gm 1 a) b) c) d) e) f) g = gm a (gm b (gm c (gm d (gm e (gm f g))))) := by
  rw [show gm 1 a = a from by rw [gm_comm (by omega) ha]; exact gm_one _ ha]
  have l := fun {x : Nat} (h : x < 256) (y : Nat) => gm_lt h y
  rw [gm_assoc (l (l (l (l ha _) _) _) _) hf hg, gm_assoc (l (l (l ha _) _) _) he (l hf _), gm_assoc (l (l ha _) _) hd (l he _), gm_assoc (l ha _) hc (l hd _), gm_assoc ha hb (l hc _)]
def sqI (a : Int) : Int := mulI a a
theorem power_odd {a x n : Int} {k : Nat} (ha : Byte a) (hx : Byte x) (hn : 0 < n) (h : Go.bits .and .i64 n 1 = 1) (hk : 5 ≤ k) : gf_power.l0 (k + 1) a n x = gf_power.l0 k (sqI a) (n / 2) (mulI x a) := by
  simp only [gf_power.l0]
  rw [if_pos hn, if_pos h, Mul_f hx ha k hk, Mul_f ha ha k hk]; rfl
theorem power_even {a x n : Int} {k : Nat} (ha : Byte a) (hn : 0 < n) (h : Go.bits .and .i64 n 1 ≠ 1) (hk : 5 ≤ k) : gf_power.l0 (k + 1) a n x = gf_power.l0 k (sqI a) (n / 2) x := by
  simp only [gf_power.l0]
  rw [if_pos hn, if_neg h, Mul_f ha ha k hk]; rfl
theorem power_end (a x : Int) (k : Nat) : gf_power.l0 (k + 1) a 0 x = some x := by
  simp only [gf_power.l0]
  rw [if_neg (by omega)]
theorem Inv_f {a : Int} (ha : Byte a) (k : Nat) (hk : 20 ≤ k) : gf_Inv.f k a = some (if a = 0 then (0, 1) else (invI a, 0)) := by
  unfold gf_Inv.f
  by_cases h0 : a = 0
  · rw [if_pos h0, if_pos h0]
  · rw [if_neg h0, if_neg h0]
    obtain ⟨d, rfl⟩ : ∃ d, k = d + 20 := ⟨k - 20, by omega⟩
    unfold gf_power.f
    have b1 : Byte (sqI a) := byte_mulI ha ha
    have b2 : Byte (sqI (sqI a)) := byte_mulI b1 b1
    have b3 : Byte (sqI (sqI (sqI a))) := byte_mulI b2 b2
    have b4 : Byte (sqI (sqI (sqI (sqI a)))) := byte_mulI b3 b3
    have b5 : Byte (sqI (sqI (sqI (sqI (sqI a))))) := byte_mulI b4 b4
    have b6 : Byte (sqI (sqI (sqI (sqI (sqI (sqI a)))))) := byte_mulI b5 b5
    have b7 : Byte (sqI (sqI (sqI (sqI (sqI (sqI (sqI a))))))) := byte_mulI b6 b6
    have bo : Byte 1 := ⟨by omega, by omega⟩
    have x1 := byte_mulI bo b1
    have x2 := byte_mulI x1 b2
    have x3 := byte_mulI x2 b3
    have x4 := byte_mulI x3 b4
    have x5 := byte_mulI x4 b5
    have x6 := byte_mulI x5 b6
    rw [power_even ha (by omega) (by decide) (by omega), show (254 : Int) / 2 = 127 from rfl,
      power_odd b1 bo (by omega) (by decide) (by omega), show (127 : Int) / 2 = 63 from rfl,
      power_odd b2 x1 (by omega) (by decide) (by omega), show (63 : Int) / 2 = 31 from rfl,
      power_odd b3 x2 (by omega) (by decide) (by omega), show (31 : Int) / 2 = 15 from rfl,
      power_odd b4 x3 (by omega) (by decide) (by omega), show (15 : Int) / 2 = 7 from rfl,
      power_odd b5 x4 (by omega) (by decide) (by omega), show (7 : Int) / 2 = 3 from rfl,
      power_odd b6 x5 (by omega) (by decide) (by omega), show (3 : Int) / 2 = 1 from rfl,
      power_odd b7 x6 (by omega) (by decide) (by omega), show (1 : Int) / 2 = 0 from rfl]
    rw [power_end]
    simp only [Option.bind_some]
    congr 2
    obtain ⟨n, rfl⟩ := Int.eq_ofNat_of_zero_le ha.1
    have hn : n < 256 := by have := ha.2; omega
    have q1 : ∀ {y : Nat}, y < 256 → sq y < 256 := fun hy => gm_lt hy _
    have g1 := q1 hn
    have g2 := q1 g1
    have g3 := q1 g2
    have g4 := q1 g3
    have g5 := q1 g4
    have g6 := q1 g5
    have g7 := q1 g6
    show ((gm (gm (gm (gm (gm (gm (gm 1 (sq n)) (sq (sq n))) (sq (sq (sq n)))) (sq (sq (sq (sq n))))) (sq (sq (sq (sq (sq n)))))) (sq (sq (sq (sq (sq (sq n))))))) (sq (sq (sq (sq (sq (sq (sq n)))))) ) : Nat) : Int) = ((ginv n : Nat) : Int)
    congr 1
    exact seven g1 g2 g3 g4 g5 g6 g7
end Go.Proofs.YtijebgceopddmaaDoor.Gf
end
section
set_option linter.unusedVariables false
namespace QLin
variable {F : Type} [Fl F]
open Fl
def dot (n : Nat) (v z : Vec F) : F := sum n fun j => v j * z j
def aug (n : Nat) (A : Mat F) (b : Vec F) : Mat F := fun i j => if j < n then A i j else if j = n then b i else zero
section
variable {h n r : Nat} {p : Nat → Nat} {A R : Mat F} {b : Vec F}
def Piv (r : Nat) (p : Nat → Nat) (c : Nat) : Prop := ∃ j, j < r ∧ p j = c
structure IsKer (n r : Nat) (p : Nat → Nat) (R : Mat F) (c : Nat) (v : Vec F) : Prop where
  one_ : v c = one
  at_ : ∀ j, j < r → v (p j) = R j c
  free : ∀ d, d < n → d ≠ c → ¬ Piv r p d → v d = zero
open Classical in
theorem dot_row (hR : Rref (n + 1) r p R) (hp : ∀ j, j < r → p j < n) {k : Nat} (hk : k < r) (z : Vec F) :
    dot n (R k) z = z (p k) + sum n fun c => if Piv r p c then zero else R k c * z c := by
  have h1 : dot n (R k) z = sum n fun c => (if c = p k then z c else zero) + (if Piv r p c then zero else R k c * z c) := by
    refine sum_congr fun c hc => ?_
    by_cases e : Piv r p c
    · rw [if_pos e, add_zero]
      obtain ⟨j, hj, rfl⟩ := e
      rw [hR.piv j k hj hk]
      by_cases e' : j = k
      · rw [if_pos e', e', if_pos rfl, one_mul]
      · rw [if_neg e', if_neg fun e2 => e' (hR.inj hj hk e2), zero_mul]
    · rw [if_neg e, if_neg fun e2 => e ⟨k, hk, e2.symm⟩, zero_add]
  rw [h1, sum_add, sum_only (p k) (hp k hk) (fun c _ hc => by rw [if_neg hc]), if_pos rfl]
theorem ker_dot (hR : Rref (n + 1) r p R) (hp : ∀ j, j < r → p j < n) {c : Nat} (hc : c < n) (hfree : ¬ Piv r p c) {v : Vec F} (hv : IsKer n r p R c v) : ∀ k, k < r → dot n (R k) v = zero := by
  intro k hk
  rw [dot_row hR hp hk, hv.at_ k hk, sum_only c hc (fun d hd hne => ?_), if_neg hfree, hv.one_, mul_one, add_self]
  split
  · rfl
  · rename_i hd'; rw [hv.free d hd hne hd', mul_zero]
structure IsKernel (n r : Nat) (p : Nat → Nat) (R : Mat F) (f : Nat) (q : Nat → Nat) (K : Mat F) : Prop where
  lt : ∀ i, i < f → q i < n
  free : ∀ i, i < f → ¬ Piv r p (q i)
  inj : ∀ i j, i < f → j < f → q i = q j → i = j
  all : ∀ c, c < n → ¬ Piv r p c → ∃ i, i < f ∧ q i = c
  ker : ∀ i, i < f → IsKer n r p R (q i) (K i)
  wide : ∀ i d, i < f → n ≤ d → K i d = zero
open Classical in
theorem IsKernel.span (hR : Rref (n + 1) r p R) (hp : ∀ j, j < r → p j < n) {f : Nat} {q : Nat → Nat} {K : Mat F} (hK : IsKernel n r p R f q K) {u : Vec F} (hw : ∀ d, n ≤ d → u d = zero) :
    InSpan f K u ↔ ∀ k, k < r → dot n (R k) u = zero := by
  constructor
  · rintro ⟨a, rfl⟩ k hk
    show (sum n fun j => R k j * sum f fun i => a i * K i j) = zero
    have h1 : (sum n fun j => R k j * sum f fun i => a i * K i j) = sum f fun i => a i * dot n (R k) (K i) := by
      have h2 : (sum n fun j => R k j * sum f fun i => a i * K i j) = sum n fun j => sum f fun i => a i * (R k j * K i j) :=
        sum_congr fun j _ => by rw [mul_sum]; exact sum_congr fun i _ => by rw [← mul_assoc, mul_comm (R k j), mul_assoc]
      rw [h2, sum_comm]; exact sum_congr fun i _ => (mul_sum _ _ _).symm
    rw [h1]
    exact sum_zeros fun i hi => by rw [ker_dot hR hp (hK.lt i hi) (hK.free i hi) (hK.ker i hi) k hk, mul_zero]
  · intro hu
    refine ⟨fun i => u (q i), funext fun d => ?_⟩
    show u d = sum f fun i => u (q i) * K i d
    by_cases hd : d < n
    · by_cases hpd : Piv r p d
      · obtain ⟨k, hk, rfl⟩ := hpd
        have h1 := hu k hk
        rw [dot_row hR hp hk] at h1
        rw [eq_of_add _ _ h1]
        -- the sum over the free columns, as_ a sum over the kernel's rows
        have key : ∀ m, m ≤ n → (sum m fun c => if Piv r p c then zero else R k c * u c) = sum f fun i => if q i < m then R k (q i) * u (q i) else zero := by
          intro m
          induction m with
          | zero => exact fun _ => (sum_zeros fun i _ => by simp).symm
          | succ m ih =>
            intro hm
            rw [sum_succ, ih (by omega)]
            by_cases e : Piv r p m
            · rw [if_pos e, add_zero]
              refine sum_congr fun i hi => ?_
              have hne : q i ≠ m := fun e2 => hK.free i hi (e2 ▸ e)
              by_cases h3 : q i < m
              · rw [if_pos h3, if_pos (by omega)]
              · rw [if_neg h3, if_neg (by omega)]
            · rw [if_neg e]
              obtain ⟨i0, hi0, e0⟩ := hK.all m (by omega) e
              have h4 : (R k m * u m) = sum f fun i => if q i = m then R k (q i) * u (q i) else zero := by
                rw [sum_only i0 hi0 (fun i hi hne => by rw [if_neg fun e2 => hne (hK.inj i i0 hi hi0 (by omega))]), if_pos e0, e0]
              rw [h4, ← sum_add]
              refine sum_congr fun i hi => ?_
              by_cases h3 : q i < m
              · rw [if_pos h3, if_neg (by omega), if_pos (by omega), add_zero]
              · by_cases h5 : q i = m
                · rw [if_neg h3, if_pos h5, if_pos (by omega), zero_add]
                · rw [if_neg h3, if_neg h5, if_neg (by omega), add_zero]
        rw [key n (Nat.le_refl _)]
        exact sum_congr fun i hi => by rw [if_pos (hK.lt i hi), (hK.ker i hi).at_ k hk, mul_comm]
      · obtain ⟨i0, hi0, e0⟩ := hK.all d hd hpd
        rw [sum_only i0 hi0 (fun i hi hne => by rw [(hK.ker i hi).free d hd (fun e2 => hne (hK.inj i i0 hi hi0 (by omega))) hpd, mul_zero]), e0]
        have := (hK.ker i0 hi0).one_
        rw [e0] at this
        rw [this, mul_one]
    · rw [hw d (by omega)]
      exact (sum_zeros fun i hi => by rw [hK.wide i d hi (by omega), mul_zero]).symm
end
def augI (n : Nat) (A : Mat F) : Mat F := fun i j => if j < n then A i j else if j = n + i ∧ i < n then one else zero
def unit (n : Nat) : Mat F := fun i j => if i = j ∧ i < n then one else zero
theorem augI_wide (n : Nat) (A : Mat F) (i d : Nat) (hd : n + n ≤ d) : augI n A i d = zero := by
  simp only [augI, show ¬ d < n by omega, if_false]; rw [if_neg (by omega)]
theorem augI_rank {n r : Nat} {A : Mat F} (h : HasRank (n + n) n (augI n A) r) : r = n :=
  h.of_units (fun j d _ hd => augI_wide n A j d hd) (fun i => n + i) fun i j hi hj => by
    simp only [augI, show ¬ n + i < n by omega, if_false]
    by_cases e : i = j
    · rw [if_pos ⟨by omega, hj⟩, if_pos e]
    · rw [if_neg (by omega), if_neg e]
section
variable {n : Nat} {p : Nat → Nat} {A R : Mat F}
def right (n : Nat) (R : Mat F) : Mat F := fun i j => if i < n ∧ j < n then R i (n + j) else zero
theorem inv_left (hR : Rref (n + n) n p R) (hs : ∀ v, InSpan n (augI n A) v ↔ InSpan n R v) (hp : ∀ k, k < n → p k = k) (i j : Nat) (hi : i < n) (hj : j < n) : mul n (right n R) A i j = unit n i j := by
  obtain ⟨a, ha⟩ := (hs _).2 (InSpan.row hi : InSpan n R (R i))
  have h1 : ∀ t, t < n → right n R i t = a t := by
    intro t ht
    have h2 := congrFun ha (n + t)
    simp only [right, hi, ht, and_self, if_true]
    rw [h2]
    show (sum n fun k => a k * augI n A k (n + t)) = a t
    rw [sum_only t ht (fun k hk hne => by simp only [augI, show ¬ n + t < n by omega, if_false]; rw [if_neg (by omega), mul_zero])]
    simp [augI, ht, show ¬ n + t < n by omega, mul_one]
  have h3 : R i j = sum n fun k => a k * A k j := by
    rw [congrFun ha j]
    exact sum_congr fun k _ => by simp [augI, hj]
  show (sum n fun t => right n R i t * A t j) = _
  rw [sum_congr fun t ht => by rw [h1 t ht], ← h3]
  have h4 := hR.piv j i hj hi
  rw [hp j hj] at h4
  rw [h4, unit]
  by_cases e : i = j
  · rw [if_pos e.symm, if_pos ⟨e, hi⟩]
  · rw [if_neg fun e2 => e e2.symm, if_neg fun e2 => e e2.1]
theorem inv_right (hR : Rref (n + n) n p R) (hs : ∀ v, InSpan n (augI n A) v ↔ InSpan n R v) (hp : ∀ k, k < n → p k = k) (i j : Nat) (hi : i < n) (hj : j < n) : mul n A (right n R) i j = unit n i j := by
  have h1 := hR.coef ((hs _).1 (InSpan.row hi : InSpan n (augI n A) (augI n A i)))
  have h2 := congrFun h1 (n + j)
  have h3 : augI n A i (n + j) = unit n i j := by
    simp only [augI, show ¬ n + j < n by omega, if_false, unit]
    by_cases e : i = j
    · rw [if_pos ⟨by omega, hi⟩, if_pos ⟨e, hi⟩]
    · rw [if_neg (by omega), if_neg fun e2 => e e2.1]
  rw [h3] at h2
  rw [h2]
  refine sum_congr fun t ht => ?_
  show A i t * right n R t j = augI n A i (p t) * R t (n + j)
  rw [hp t ht]; simp [right, augI, ht, hj]
theorem mono_id {n : Nat} {f : Nat → Nat} (hf : ∀ i, i < n → f i < n) (hm : ∀ i j, i < j → j < n → f i < f j) : ∀ k, k < n → f k = k := by
  have h1 : ∀ k, k < n → k ≤ f k := by
    intro k
    induction k with
    | zero => exact fun _ => Nat.zero_le _
    | succ k ih => intro hk; have := ih (by omega); have := hm k (k + 1) (by omega) hk; omega
  have h2 : ∀ d k, k < n → n - 1 - k = d → f k ≤ k := by
    intro d
    induction d with
    | zero => intro k hk hd; have := hf k hk; omega
    | succ d ih => intro k hk hd; have := ih (k + 1) (by omega) (by omega); have := hm k (k + 1) (by omega) (by omega); omega
  intro k hk
  have := h1 k hk
  have := h2 _ k hk rfl
  omega
theorem inv_of_rank (hR : Rref (n + n) n p R) (hs : ∀ v, InSpan n (augI n A) v ↔ InSpan n R v) (hA : HasRank n n A n) : ∀ k, k < n → p k = k := by
  obtain ⟨q, S, hS, e⟩ := hA
  have hq := mono_id hS.lt hS.mono
  have hk : ∀ k, k < n → ∃ j, j < n ∧ p j = k := by
    intro k hk
    obtain ⟨a, ha⟩ := (e (S k)).2 (InSpan.row hk)
    have hv : InSpan n R (comb n a (augI n A)) := (hs _).1 ⟨a, rfl⟩
    have h1 : ∀ c, c < n → comb n a (augI n A) c = S k c := fun c hc => by
      rw [ha]; exact sum_congr fun i _ => by simp [augI, hc]
    have hl := hS.lead_row hk
    rw [hq k hk] at hl
    have hl' : Lead (comb n a (augI n A)) k := ⟨by rw [h1 k hk]; exact hl.1, fun d hd => by rw [h1 d (by omega)]; exact hl.2 d hd⟩
    rcases hR.lead_in hv with ⟨j, hj, hl2⟩ | h0
    · exact ⟨j, hj, hl2.uniq hl'⟩
    · exact absurd (by rw [h0]) hl'.1
  have hx : ∀ k, ∃ j, k < n → j < n ∧ p j = k := fun k => by
    by_cases h : k < n
    · obtain ⟨j, hj⟩ := hk k h; exact ⟨j, fun _ => hj⟩
    · exact ⟨0, fun h' => absurd h' h⟩
  have hf := fun k => Classical.choose_spec (hx k)
  have hid := mono_id (n := n) (f := fun k => Classical.choose (hx k)) (fun i hi => (hf i hi).1) (fun i j hij hj => by
    show Classical.choose (hx i) < Classical.choose (hx j)
    have h1 := hf i (by omega)
    have h2 := hf j hj
    rcases Nat.lt_trichotomy (Classical.choose (hx i)) (Classical.choose (hx j)) with h | h | h
    · exact h
    · have h3 := h1.2; rw [h, h2.2] at h3; omega
    · have := hR.mono _ _ h h1.1; omega)
  intro k hk
  have h1 := (hf k hk).2
  have h2 : Classical.choose (hx k) = k := hid k hk
  rw [h2] at h1
  exact h1
theorem unit_rref (n : Nat) : Rref n n id (unit (F := F) n) :=
  ⟨fun j hj => hj, fun i j hij _ => hij, fun i j hi hj => by simp [unit, hj, eq_comm], fun j c hj hc => by simp only [id] at hc; simp [unit, show j ≠ c by omega], fun j c hj hc => by simp [unit, show j ≠ c by omega]⟩
theorem unit_rank (n : Nat) : HasRank n n (unit (F := F) n) n := ⟨id, unit n, unit_rref n, fun _ => Iff.rfl⟩
theorem rank_of_left {B : Mat F} {s : Nat} (hA : HasRank n n A s) (hw : ∀ i d, i < n → n ≤ d → A i d = zero) (h : ∀ i j, i < n → j < n → mul n B A i j = unit n i j) : s = n := by
  refine Nat.le_antisymm (hA.le_rows hw) ((unit_rank n).mono hA fun i hi => ?_)
  refine ⟨B i, funext fun j => ?_⟩
  by_cases hj : j < n
  · exact (h i j hi hj).symm
  · show unit n i j = sum n fun t => B i t * A t j
    rw [sum_zeros fun t ht => by rw [hw t j ht (by omega), mul_zero]]
    simp [unit, show i ≠ j by omega]
theorem mul_unit (n : Nat) (B : Mat F) (i j : Nat) (hj : j < n) : mul n B (unit n) i j = B i j := by
  show (sum n fun t => B i t * unit n t j) = _
  rw [sum_only j hj (fun t ht hne => by simp [unit, hne, mul_zero])]; simp [unit, hj, mul_one]
theorem unit_mul (n : Nat) (B : Mat F) (i j : Nat) (hi : i < n) : mul n (unit n) B i j = B i j := by
  show (sum n fun t => unit n i t * B t j) = _
  rw [sum_only i hi (fun t ht hne => by simp [unit, show i ≠ t from fun e => hne e.symm, zero_mul])]; simp [unit, hi, one_mul]
theorem mul_congr {n : Nat} {A A' B B' : Mat F} {i j : Nat} (h1 : ∀ t, t < n → A i t = A' i t) (h2 : ∀ t, t < n → B t j = B' t j) : mul n A B i j = mul n A' B' i j :=
  sum_congr fun t ht => by rw [h1 t ht, h2 t ht]
theorem inv_same {B C : Mat F} (h1 : ∀ i j, i < n → j < n → mul n B A i j = unit n i j) (h2 : ∀ i j, i < n → j < n → mul n A C i j = unit n i j) (i j : Nat) (hi : i < n) (hj : j < n) : B i j = C i j := by
  rw [← mul_unit n B i j hj, ← unit_mul n C i j hi]
  rw [← mul_congr (A := mul n B A) (B := C) (fun t ht => h1 i t hi ht) (fun _ _ => rfl), mul_assoc']
  exact (mul_congr (fun _ _ => rfl) (fun t ht => h2 t j ht hj)).symm
end
end QLin
end
section
set_option linter.unusedVariables false
namespace QMat
open QLin QGf
def sumI (n : Nat) (f : Nat → Int) : Int := match n with | 0 => 0 | n + 1 => xorI (sumI n f) (f n)
theorem byte_sumI {n : Nat} {f : Nat → Int} (h : ∀ k, k < n → Byte (f k)) : Byte (sumI n f) := by
  induction n with
  | zero => exact byte_zero
  | succ n ih => exact byte_xorI (ih fun k hk => h k (by omega)) (h n (by omega))
theorem fb_sumI {n : Nat} {f : Nat → Int} (h : ∀ k, k < n → Byte (f k)) : fb (sumI n f) = sum n fun k => fb (f k) := by
  induction n with
  | zero => rfl
  | succ n ih =>
    show fb (xorI (sumI n f) (f n)) = sum n _ + _
    rw [fb_xorI (byte_sumI fun k hk => h k (by omega)) (h n (by omega)), ih fun k hk => h k (by omega)]
theorem grid_fn {a b : Grid} {h w : Nat} (ha : Shape a h w) (hb : Shape b h w) (ba : Bytes a) (bb : Bytes b) (he : ∀ i j, i < h → j < w → fn a i j = fn b i j) : a = b :=
  grid_ext ha hb fun i j hi hj => fb_inj (ba i j) (bb i j) (he i j hi hj)
def prodG (a b : Grid) : Grid := build a.length (cols b) fun i j => sumI b.length fun t => mulI (el a i t) (el b t j)
def trG (m : Grid) : Grid := build (cols m) m.length fun i j => el m j i
theorem bytes_prodG {a b : Grid} (ha : Bytes a) (hb : Bytes b) : Bytes (prodG a b) := bytes_build fun i j _ _ => byte_sumI fun t _ => byte_mulI (ha i t) (hb t j)
theorem bytes_trG {m : Grid} (h : Bytes m) : Bytes (trG m) := bytes_build fun i j _ _ => h j i
theorem cols_of {m : Grid} {h w : Nat} (hm : Shape m h w) : cols m = if h = 0 then 0 else w := by
  split
  · rename_i e; subst e; have := List.eq_nil_of_length_eq_zero hm.rows; subst this; rfl
  · exact shape_cols hm (by omega)
theorem fn_prodG {a b : Grid} {h k w : Nat} (sa : Shape a h k) (sb : Shape b k w) (ha : Bytes a) (hb : Bytes b) : fn (prodG a b) = mul k (fn a) (fn b) := by
  funext i j
  show fb (el (prodG a b) i j) = sum k fun t => fb (el a i t) * fb (el b t j)
  unfold prodG
  rw [el_build_any, sa.rows, sb.rows]
  by_cases hij : i < h ∧ j < cols b
  · rw [if_pos hij, fb_sumI fun t _ => byte_mulI (ha i t) (hb t j)]
    exact sum_congr fun t _ => fb_mulI (ha i t) (hb t j)
  · rw [if_neg hij]
    refine (sum_zeros fun t ht => ?_).symm
    by_cases hi : i < h
    · have hj : w ≤ j := by have := cols_of sb; split at this <;> omega
      rw [el_out sb t j (.inr hj)]; exact mul_zero _
    · rw [el_out sa i t (.inl (by omega))]; exact zero_mul _
theorem fn_trG {m : Grid} {h w : Nat} (hm : Shape m h w) : fn (trG m) = tr (fn m) := by
  funext i j
  show fb (el (trG m) i j) = fb (el m j i)
  unfold trG
  rw [el_build_any]
  split
  · rfl
  · rename_i hij
    rw [hm.rows] at hij
    have := cols_of hm
    rw [el_out hm j i (by split at this <;> omega)]
theorem shape_prodG {a b : Grid} {h k w : Nat} (sa : Shape a h k) (sb : Shape b k w) (hk : 0 < k) : Shape (prodG a b) h w := by
  unfold prodG; rw [sa.rows, shape_cols sb hk]; exact shape_build _ _ _
theorem shape_trG {m : Grid} {h w : Nat} (hm : Shape m h w) (hp : 0 < h) : Shape (trG m) w h := by
  unfold trG; rw [hm.rows, shape_cols hm hp]; exact shape_build _ _ _
def ByteL (b : List Int) : Prop := ∀ i, Byte (b.getD i 0)
theorem reduce_nil : reduce [] = ([], []) := rfl
structure Sys (h n : Nat) (A : Mat B) (b : Vec B) (R : Grid) (p : List Nat) : Prop where
  shape : Shape R p.length (n + 1)
  bytes : Bytes R
  rref : Rref (n + 1) p.length (piv p) (fn R)
  span : ∀ v, InSpan h (aug n A b) v ↔ InSpan p.length (fn R) v
def at_ (p : List Nat) (c : Nat) : Nat := p.idxOf c
theorem piv_mem {p : List Nat} {j : Nat} (h : j < p.length) : piv p j ∈ p := by
  unfold piv; rw [List.getD_eq_getElem?_getD, List.getElem?_eq_getElem h]; exact List.getElem_mem h
section
variable {h n : Nat} {A : Mat B} {b : Vec B} {R : Grid} {p : List Nat}
theorem Sys.lt (s : Sys h n A b R p) (hn : n ∉ p) {j : Nat} (hj : j < p.length) : piv p j < n := by
  have := s.rref.lt j hj
  have : piv p j ≠ n := fun e => hn (e ▸ piv_mem hj)
  omega
end
def augIG (m : Grid) : Grid := build m.length (m.length + m.length) fun i j => if j < m.length then el m i j else if j = m.length + i then 1 else 0
def invG (m : Grid) : Option Grid :=
  let r := reduce (augIG m)
  if ∀ k, k < r.2.length → piv r.2 k = k then some (build m.length m.length fun i j => el r.1 i (m.length + j)) else none
theorem bytes_augIG {m : Grid} (hm : Bytes m) : Bytes (augIG m) := bytes_build fun i j _ _ => by
  split
  · exact hm i j
  · split
    · exact ⟨by omega, by omega⟩
    · exact byte_zero
theorem fn_augIG {m : Grid} (i : Nat) (hi : i < m.length) : fn (augIG m) i = augI m.length (fn m) i := by
  funext j
  show fb (el (augIG m) i j) = _
  unfold augIG augI
  rw [el_build_any]
  by_cases hj : j < m.length
  · rw [if_pos ⟨hi, by omega⟩, if_pos hj, if_pos hj]; rfl
  · by_cases e : j = m.length + i
    · rw [if_pos ⟨hi, by omega⟩, if_neg hj, if_neg hj, if_pos e, if_pos ⟨e, hi⟩]; rfl
    · rw [if_neg hj, if_neg e, if_neg hj, if_neg (fun x : j = m.length + i ∧ i < m.length => e x.1)]
      split <;> rfl
structure Inv (n : Nat) (A : Mat B) (R : Grid) (p : List Nat) : Prop where
  len : p.length = n
  shape : Shape R n (n + n)
  bytes : Bytes R
  rref : Rref (n + n) n (piv p) (fn R)
  span : ∀ v, InSpan n (augI n A) v ↔ InSpan n (fn R) v
theorem inv_of {m : Grid} (hm : Bytes m) : Inv m.length (fn m) (reduce (augIG m)).1 (reduce (augIG m)).2 := by
  rcases Nat.eq_zero_or_pos m.length with h0 | h0
  · have : augIG m = [] := by unfold augIG; rw [h0]; rfl
    rw [this, reduce_nil, h0]
    exact ⟨rfl, ⟨rfl, fun i hi => absurd hi (by simp)⟩, fun i j => byte_zero, ⟨fun j hj => absurd hj (by simp), fun i j _ hj => absurd hj (by simp), fun i j hi => absurd hi (by simp), fun j c hj => absurd hj (by simp), fun j c hj => absurd hj (by simp)⟩, fun v => ⟨fun ⟨a, ha⟩ => ⟨a, ha⟩, fun ⟨a, ha⟩ => ⟨a, ha⟩⟩⟩
  · have hs : Shape (augIG m) m.length (m.length + m.length) := shape_build _ _ _
    obtain ⟨_, h2, h3, h4, h5⟩ := reduce_rref hs (bytes_augIG hm) (shape_cols hs h0)
    have hspan : ∀ v, InSpan m.length (augI m.length (fn m)) v ↔ InSpan (reduce (augIG m)).2.length (fn (reduce (augIG m)).1) v := fun v => by
      rw [← h5 v]
      exact ⟨InSpan.congr fun k hk c => by rw [fn_augIG k hk], InSpan.congr fun k hk c => by rw [fn_augIG k hk]⟩
    have hl := augI_rank (A := fn m) ⟨_, _, h4, hspan⟩
    rw [hl] at h2 h4 hspan
    exact ⟨hl, h2, h3, h4, hspan⟩
end QMat
end
section
set_option linter.unusedVariables false
namespace QMat
open QLin QGf
theorem tr_prod {a b : Grid} {h k w : Nat} (sa : Shape a h k) (sb : Shape b k w) (hh : 0 < h) (hk : 0 < k) (ba : Bytes a) (bb : Bytes b) :
    trG (prodG a b) = prodG (trG b) (trG a) := by
  have s1 := shape_prodG sa sb hk
  refine grid_fn (shape_trG s1 hh) (shape_prodG (shape_trG sb hk) (shape_trG sa hh) hk) (bytes_trG (bytes_prodG ba bb)) (bytes_prodG (bytes_trG bb) (bytes_trG ba)) fun i j _ _ => ?_
  rw [fn_trG s1, fn_prodG sa sb ba bb, fn_prodG (shape_trG sb hk) (shape_trG sa hh) (bytes_trG bb) (bytes_trG ba), fn_trG sa, fn_trG sb, tr_mul]
def rankG (m : Grid) : Nat := (reduce m).2.length
theorem rank_of {m : Grid} {h w : Nat} (hm : Shape m h w) (hb : Bytes m) : HasRank w h (fn m) (rankG m) := by
  rcases Nat.eq_zero_or_pos h with h0 | h0
  · subst h0
    obtain rfl : m = [] := List.eq_nil_of_length_eq_zero hm.rows
    exact ⟨id, fn [], ⟨fun j hj => absurd hj (by simp [rankG, reduce_nil]), fun i j _ hj => absurd hj (by simp [rankG, reduce_nil]), fun i j hi => absurd hi (by simp [rankG, reduce_nil]), fun j c hj => absurd hj (by simp [rankG, reduce_nil]), fun j c hj => absurd hj (by simp [rankG, reduce_nil])⟩, fun v => Iff.rfl⟩
  · exact reduce_rank hm hb (shape_cols hm h0)
theorem wide_of {m : Grid} {h w : Nat} (hm : Shape m h w) : ∀ j d, j < h → w ≤ d → fn m j d = Fl.zero := fun j d _ hd => fn_wide hm j d (.inr hd)
theorem rank_le {m : Grid} {h w : Nat} (hm : Shape m h w) (hb : Bytes m) : rankG m ≤ h ∧ rankG m ≤ w := ⟨(rank_of hm hb).le_rows (wide_of hm), (rank_of hm hb).le_cols⟩
theorem rank_tr {m : Grid} {h w : Nat} (hm : Shape m h w) (hp : 0 < h) (hb : Bytes m) : rankG (trG m) = rankG m := by
  have h1 := rank_of hm hb
  have h2 := rank_of (shape_trG hm hp) (bytes_trG hb)
  rw [fn_trG hm] at h2
  refine Nat.le_antisymm (rank_tr_le h1 h2 fun j d _ hd => fn_wide hm d j (.inl hd)) ?_
  refine rank_tr_le h2 (M := tr (fn m)) (s := rankG m) h1 fun j d hj hd => ?_
  exact fn_wide hm j d (.inr hd)
theorem rank_prod {a b : Grid} {h k w : Nat} (sa : Shape a h k) (sb : Shape b k w) (hh : 0 < h) (hk : 0 < k) (ba : Bytes a) (bb : Bytes b) : rankG (prodG a b) ≤ rankG a ∧ rankG (prodG a b) ≤ rankG b := by
  have key : ∀ {a b : Grid} {h k w : Nat}, Shape a h k → Shape b k w → 0 < k → Bytes a → Bytes b → rankG (prodG a b) ≤ rankG b := by
    intro a b h k w sa sb hk ba bb
    refine (rank_of (shape_prodG sa sb hk) (bytes_prodG ba bb)).mono (rank_of sb bb) fun j _ => ?_
    rw [fn_prodG sa sb ba bb]; exact mul_row k _ _ j
  refine ⟨?_, key sa sb hk ba bb⟩
  rcases Nat.eq_zero_or_pos w with h0 | h0
  · have := (rank_le (shape_prodG sa sb hk) (bytes_prodG ba bb)).2; omega
  · rw [← rank_tr (shape_prodG sa sb hk) hh (bytes_prodG ba bb), ← rank_tr sa hh ba, tr_prod sa sb hh hk ba bb]
    exact key (shape_trG sb hk) (shape_trG sa hh) hk (bytes_trG bb) (bytes_trG ba)
section
variable {rows : Grid} {row : List Int} {k n : Nat}
end
section
variable {m : Grid} {b y : List Int} {h n : Nat}
end
def unitG (n : Nat) : Grid := build n n fun i j => if i = j then 1 else 0
theorem fn_unitG (n : Nat) : fn (unitG n) = unit n := by
  funext i j
  show fb (el (build n n _) i j) = _
  rw [el_build_any]
  unfold unit
  by_cases h : i = j ∧ i < n
  · rw [if_pos h, if_pos ⟨h.2, by omega⟩, if_pos h.1]; rfl
  · rw [if_neg h]
    split
    · rename_i h2; rw [if_neg fun e => h ⟨e, h2.1⟩]; rfl
    · rfl
theorem bytes_unitG (n : Nat) : Bytes (unitG n) := bytes_build fun i j _ _ => by
  split
  · exact ⟨by omega, by omega⟩
  · exact byte_zero
section
variable {m : Grid} {n : Nat}
theorem fn_right {R : Grid} : fn (build n n fun i j => el R i (n + j)) = right n (fn R) := by
  funext i j
  show fb (el (build n n _) i j) = _
  rw [el_build_any]
  unfold right
  split <;> rfl
theorem inv_some (hs : Shape m n n) (hb : Bytes m) {b : Grid} (he : invG m = some b) :
    Shape b n n ∧ Bytes b ∧ rankG m = n ∧ (∀ i j, i < n → j < n → mul n (fn b) (fn m) i j = unit n i j) ∧ ∀ i j, i < n → j < n → mul n (fn m) (fn b) i j = unit n i j := by
  have s := inv_of hb
  rw [hs.rows] at s
  unfold invG at he
  dsimp only at he
  generalize reduce (augIG m) = r at *
  rw [hs.rows] at he
  split at he
  · rename_i hp
    simp only [Option.some.injEq] at he
    subst he
    rw [s.len] at hp
    have hl := fun i j hi hj => inv_left s.rref s.span hp i j hi hj
    refine ⟨shape_build _ _ _, bytes_build fun i j _ _ => s.bytes _ _, rank_of_left (rank_of hs hb) (wide_of hs) hl, ?_, ?_⟩
    · rw [fn_right]; exact hl
    · rw [fn_right]; exact fun i j hi hj => inv_right s.rref s.span hp i j hi hj
  · cases he
theorem inv_none (hs : Shape m n n) (hb : Bytes m) (he : invG m = none) : rankG m ≠ n := by
  have s := inv_of hb
  rw [hs.rows] at s
  unfold invG at he
  dsimp only at he
  generalize reduce (augIG m) = r at *
  split at he
  · cases he
  · rename_i hp
    intro e
    have h1 := rank_of hs hb
    rw [e] at h1
    exact hp fun k hk => inv_of_rank s.rref s.span h1 k (by rw [← s.len]; exact hk)
theorem inv_iff (hs : Shape m n n) (hb : Bytes m) : (∃ b, invG m = some b) ↔ rankG m = n := by
  constructor
  · rintro ⟨b, he⟩; exact (inv_some hs hb he).2.2.1
  · intro e
    cases he : invG m with
    | some b => exact ⟨b, rfl⟩
    | none => exact absurd e (inv_none hs hb he)
theorem prod_unit {b : Grid} (sb : Shape b n n) (sm : Shape m n n) (bb : Bytes b) (bm : Bytes m) (h : ∀ i j, i < n → j < n → mul n (fn b) (fn m) i j = unit n i j) : prodG b m = unitG n := by
  rcases Nat.eq_zero_or_pos n with h0 | h0
  · subst h0
    obtain rfl : b = [] := List.eq_nil_of_length_eq_zero sb.rows
    rfl
  · refine grid_fn (shape_prodG sb sm h0) (shape_build _ _ _) (bytes_prodG bb bm) (bytes_unitG n) fun i j hi hj => ?_
    rw [fn_prodG sb sm bb bm, h i j hi hj, fn_unitG]
theorem prod_rank_full {a b : Grid} (sa : Shape a n n) (sb : Shape b n n) (hn : 0 < n) (ba : Bytes a) (bb : Bytes b) (ha : rankG a = n) : rankG (prodG a b) = n ↔ rankG b = n := by
  constructor
  · intro e
    have h1 := (rank_prod sa sb hn hn ba bb).2
    have h2 := (rank_le sb bb).2
    omega
  · intro e
    obtain ⟨a', ea⟩ := (inv_iff sa ba).2 ha
    obtain ⟨b', eb⟩ := (inv_iff sb bb).2 e
    obtain ⟨sa', ba', _, la, _⟩ := inv_some sa ba ea
    obtain ⟨sb', bb', _, lb, _⟩ := inv_some sb bb eb
    refine rank_of_left (B := mul n (fn b') (fn a')) (rank_of (shape_prodG sa sb hn) (bytes_prodG ba bb)) (wide_of (shape_prodG sa sb hn)) fun i j hi hj => ?_
    rw [fn_prodG sa sb ba bb, mul_assoc', ← mul_assoc' n n (fn a')]
    rw [mul_congr (A' := fn b') (B' := mul n (unit n) (fn b)) (fun _ _ => rfl) fun t ht => mul_congr (fun s hs => la t s ht hs) fun _ _ => rfl]
    rw [mul_congr (A' := fn b') (B' := fn b) (fun _ _ => rfl) fun t ht => unit_mul n _ t j ht]
    exact lb i j hi hj
theorem inv_prod {a b a' b' c : Grid} (sa : Shape a n n) (sb : Shape b n n) (hn : 0 < n) (ba : Bytes a) (bb : Bytes b) (ea : invG a = some a') (eb : invG b = some b') (ec : invG (prodG a b) = some c) : c = prodG b' a' := by
  obtain ⟨sa', ba', _, la, _⟩ := inv_some sa ba ea
  obtain ⟨sb', bb', _, lb, _⟩ := inv_some sb bb eb
  obtain ⟨sc, bc, _, _, rc⟩ := inv_some (shape_prodG sa sb hn) (bytes_prodG ba bb) ec
  refine grid_fn sc (shape_prodG sb' sa' hn) bc (bytes_prodG bb' ba') fun i j hi hj => ?_
  refine (inv_same (A := fn (prodG a b)) (fun i j hi hj => ?_) rc i j hi hj).symm
  rw [fn_prodG sb' sa' bb' ba', fn_prodG sa sb ba bb, mul_assoc', ← mul_assoc' n n (fn a')]
  rw [mul_congr (A' := fn b') (B' := mul n (unit n) (fn b)) (fun _ _ => rfl) fun t ht => mul_congr (fun s hs => la t s ht hs) fun _ _ => rfl]
  rw [mul_congr (A' := fn b') (B' := fn b) (fun _ _ => rfl) fun t ht => unit_mul n _ t j ht]
  exact lb i j hi hj
end
end QMat
end
section
set_option linter.unusedVariables false
set_option linter.unusedSimpArgs false
namespace Go.Proofs.YtijebgceopddmaaDoor.Fn
open Go.RowKit Go.Proofs.YtijebgceopddmaaDoorW.PrintWords Go.Proofs.YtijebgceopddmaaDoorW.PrintMore Go.Proofs.YtijebgceopddmaaDoor.Gf Go.Proofs.YtijebgceopddmaaDoor.Pa Go.Proofs.YtijebgceopddmaaDoor.Pr QMat QGf
theorem w64 {n : Int} (h : 0 ≤ n ∧ n ≤ 9223372036854775807) : wrap64 n = n := by unfold wrap64; omega
theorem wS (i : Nat) (h : i < 4611686018427387904) : wrap64 ((i : Int) + 1) = ((i + 1 : Nat) : Int) := by unfold wrap64; omega
theorem rdL {m : List (List Int)} (i : Nat) : rd_L1 m (i : Int) = m.getD i [] := by unfold rd_L1; rw [Int.toNat_natCast]
theorem rdI {r : List Int} (i : Nat) : rd r (i : Int) = r.getD i 0 := by unfold rd; rw [Int.toNat_natCast]
theorem drop_at {α : Type} {m : List α} {i : Nat} (z : α) (h : i < m.length) : m.drop i = m.getD i z :: m.drop (i + 1) := by
  rw [List.drop_eq_getElem_cons h, List.getD_eq_getElem?_getD, List.getElem?_eq_getElem h]; rfl
def anyLong (m : Grid) : Bool := m.any fun r => decide (48 < r.length)
def anyOdd (m : Grid) (c : Nat) : Bool := m.any fun r => decide (r.length ≠ c)
def chk (m : Grid) : Int := if 48 < m.length then 2 else if anyLong m = true then 2 else if anyOdd m (cols m) = true then 1 else 0
def Valid (m : Grid) : Prop := m.length ≤ 48 ∧ (∀ r, r ∈ m → r.length ≤ 48) ∧ ∀ r, r ∈ m → r.length = cols m
theorem chk_zero {m : Grid} : chk m = 0 ↔ Valid m := by
  unfold chk Valid
  by_cases h1 : 48 < m.length
  · simp only [h1, if_true]; exact ⟨fun h => by omega, fun h => by omega⟩
  · simp only [h1, if_false]
    by_cases h2 : anyLong m = true
    · simp only [h2, if_true]
      simp only [anyLong, List.any_eq_true, decide_eq_true_eq] at h2
      obtain ⟨r, hr, hl⟩ := h2
      exact ⟨fun h => by omega, fun h => absurd (h.2.1 r hr) (by omega)⟩
    · simp only [h2, if_false]
      by_cases h3 : anyOdd m (cols m) = true
      · simp only [h3, if_true]
        simp only [anyOdd, List.any_eq_true, decide_eq_true_eq] at h3
        obtain ⟨r, hr, hl⟩ := h3
        exact ⟨fun h => by omega, fun h => absurd (h.2.2 r hr) hl⟩
      · simp only [h3, if_false]
        simp only [anyLong, anyOdd, List.any_eq_true, decide_eq_true_eq, not_exists, not_and] at h2 h3
        exact ⟨fun _ => ⟨by omega, fun r hr => Nat.le_of_not_lt (h2 r hr), fun r hr => Classical.byContradiction fun h => h3 r hr h⟩, fun _ => rfl⟩
theorem Valid.shape {m : Grid} (h : Valid m) : Shape m m.length (cols m) := by
  refine shape_self fun i hi => ?_
  rw [List.getD_eq_getElem?_getD, List.getElem?_eq_getElem hi]
  exact h.2.2 _ (List.getElem_mem hi)
theorem Valid.cols_le {m : Grid} (h : Valid m) : cols m ≤ 48 := by
  unfold cols
  cases m with
  | nil => simp
  | cons r m => exact h.2.1 r (by simp)
def fits (m : Grid) (n : Nat) : Bool := decide (m.length ≤ n) && m.all fun r => decide (r.length ≤ n)
theorem Few_l0 {m : Grid} {n : Nat} (hm : m.length < 4611686018427387904) : ∀ (d k i : Nat), i + d = m.length → d < k → quietusref05_Few.l0 k m n i = some ((m.drop i).all fun r => decide (r.length ≤ n))
  | d, 0, i, hd, hk => by omega
  | d, k + 1, i, hd, hk => by
    simp only [quietusref05_Few.l0]
    by_cases hi : i < m.length
    · rw [if_pos (by omega), if_pos (by omega), rdL, drop_at [] hi, List.all_cons]
      by_cases hg : (m.getD i []).length ≤ n
      · rw [if_neg (by omega), wS i (by omega), Few_l0 hm (d - 1) k (i + 1) (by omega) (by omega), decide_eq_true hg, Bool.true_and]
      · rw [if_pos (by omega), decide_eq_false hg, Bool.false_and]
    · rw [if_neg (by omega), List.drop_eq_nil_of_le (by omega)]
      rfl
theorem Few_f {m : Grid} {n : Nat} (hn : n < 1000) {k : Nat} (hk : 1002 ≤ k) : quietusref05_Few.f k m n = some (fits m n) := by
  unfold quietusref05_Few.f fits
  by_cases h : m.length ≤ n
  · rw [if_neg (by omega)]
    have := Few_l0 (m := m) (n := n) (by omega) m.length k 0 (by omega) (by omega)
    simp only [Int.natCast_zero] at this
    rw [this, decide_eq_true h, Bool.true_and]; rfl
  · rw [if_pos (by omega), decide_eq_false h, Bool.false_and]
theorem Check_l0 {m : Grid} (hm : m.length ≤ 48) : ∀ (d k i : Nat) (e : Int), i + d = m.length → d < k → matrix_Check.l0 k m e m m.length i = some (if anyLong (m.drop i) = true then 2 else if anyOdd (m.drop i) (cols m) = true then 1 else e)
  | d, 0, i, e, hd, hk => by omega
  | d, k + 1, i, e, hd, hk => by
    simp only [matrix_Check.l0]
    by_cases hi : i < m.length
    · have hc : ((rd_L1 m 0).length : Int) = cols m := by rw [show (0 : Int) = ((0 : Nat) : Int) from rfl, rdL]; rfl
      rw [if_pos (by omega), if_pos (by omega), if_pos (by omega), rdL, drop_at [] hi, anyLong, anyOdd, List.any_cons, List.any_cons]
      by_cases hg : 48 < (m.getD i []).length
      · rw [if_pos (by omega), decide_eq_true hg, Bool.true_or, if_pos rfl]
      · rw [if_neg (by omega), if_pos (by omega), hc, wS i (by omega), decide_eq_false hg, Bool.false_or]
        by_cases he : (m.getD i []).length = cols m
        · rw [if_pos (by omega), Check_l0 hm (d - 1) k (i + 1) e (by omega) (by omega), decide_eq_false (by simpa using he), Bool.false_or]
          rfl
        · rw [if_neg (by omega), Check_l0 hm (d - 1) k (i + 1) 1 (by omega) (by omega), ite_self, decide_eq_true (by simpa using he), Bool.true_or, if_pos rfl]
          rfl
    · rw [if_neg (by omega), List.drop_eq_nil_of_le (by omega)]
      rfl
theorem Check_f (m : Grid) {k : Nat} (hk : 100 ≤ k) : matrix_Check.f k m = some (chk m) := by
  unfold matrix_Check.f chk
  by_cases h : (m.length : Int) > 48
  · rw [if_pos h, if_pos (by omega)]
  · rw [if_neg h, if_neg (by omega)]
    have := Check_l0 (m := m) (by omega) m.length k 0 0 (by omega) (by omega)
    simp only [Int.natCast_zero] at this
    rw [this]
    rfl
theorem Check2_l1 {m : Grid} (hm : m.length ≤ 48) : ∀ (d k i : Nat), i + d = m.length → d < k → quietusref05_Check.l1 k m i = some (if anyOdd (m.drop i) (cols m) = true then 1 else 0)
  | d, 0, i, hd, hk => by omega
  | d, k + 1, i, hd, hk => by
    simp only [quietusref05_Check.l1]
    by_cases hi : i < m.length
    · have hc : ((rd_L1 m 0).length : Int) = cols m := by rw [show (0 : Int) = ((0 : Nat) : Int) from rfl, rdL]; rfl
      rw [if_pos (by omega), if_pos (by omega), if_pos (by omega), rdL, hc, drop_at [] hi, anyOdd, List.any_cons]
      by_cases he : (m.getD i []).length = cols m
      · rw [if_pos (by omega), wS i (by omega), Check2_l1 hm (d - 1) k (i + 1) (by omega) (by omega), decide_eq_false (by simpa using he), Bool.false_or]
        rfl
      · rw [if_neg (by omega), decide_eq_true (by simpa using he), Bool.true_or, if_pos rfl]
    · rw [if_neg (by omega), List.drop_eq_nil_of_le (by omega)]
      rfl
theorem Check2_l0 {m : Grid} (hm : m.length ≤ 48) : ∀ (d k i : Nat), i + d = m.length → d + m.length + 1 < k → quietusref05_Check.l0 k m i = some (if anyLong (m.drop i) = true then 2 else if anyOdd m (cols m) = true then 1 else 0)
  | d, 0, i, hd, hk => by omega
  | d, k + 1, i, hd, hk => by
    simp only [quietusref05_Check.l0]
    by_cases hi : i < m.length
    · rw [if_pos (by omega), if_pos (by omega), rdL, drop_at [] hi, anyLong, List.any_cons]
      by_cases hg : 48 < (m.getD i []).length
      · rw [if_pos (by omega), decide_eq_true hg, Bool.true_or, if_pos rfl]
      · rw [if_neg (by omega), wS i (by omega), Check2_l0 hm (d - 1) k (i + 1) (by omega) (by omega), decide_eq_false hg, Bool.false_or]
        rfl
    · rw [if_neg (by omega), List.drop_eq_nil_of_le (by omega)]
      have := Check2_l1 hm m.length k 0 (by omega) (by omega)
      simp only [Int.natCast_zero] at this
      rw [this]
      rfl
theorem Check2_f (m : Grid) {k : Nat} (hk : 200 ≤ k) : quietusref05_Check.f k m = some (chk m) := by
  unfold quietusref05_Check.f chk
  by_cases h : (m.length : Int) > 48
  · rw [if_pos h, if_pos (by omega)]
  · rw [if_neg h, if_neg (by omega)]
    have := Check2_l0 (m := m) (by omega) m.length k 0 (by omega) (by omega)
    simp only [Int.natCast_zero] at this
    rw [this]
    rfl
theorem columns_f (m : Grid) : matrix_columns.f m = some (cols m : Int) := by
  unfold matrix_columns.f cols
  cases m with
  | nil => simp
  | cons r m => rw [if_neg (by simp only [List.length_cons]; omega), if_pos (by simp only [List.length_cons]; omega), show (0 : Int) = ((0 : Nat) : Int) from rfl, rdL]
theorem Columns_f (m : Grid) : quietusref05_Columns.f m = some (cols m : Int) := by
  unfold quietusref05_Columns.f cols
  cases m with
  | nil => simp
  | cons r m => rw [if_neg (by simp only [List.length_cons]; omega), if_pos (by simp only [List.length_cons]; omega), show (0 : Int) = ((0 : Nat) : Int) from rfl, rdL]
theorem SameRow_l0 {a b : List Int} (hl : a.length = b.length) (hm : a.length < 4611686018427387904) : ∀ (d k i : Nat), i + d = a.length → d < k → quietusref05_SameRow.l0 k a b i = some (decide (a.drop i = b.drop i))
  | d, 0, i, hd, hk => by omega
  | d, k + 1, i, hd, hk => by
    simp only [quietusref05_SameRow.l0]
    by_cases hi : i < a.length
    · rw [if_pos (by omega), if_pos (by omega), if_pos (by omega), rdI, rdI, drop_at (m := a) 0 hi, drop_at (m := b) 0 (hl ▸ hi)]
      by_cases he : a.getD i 0 = b.getD i 0
      · rw [if_pos he, wS i (by omega), SameRow_l0 hl hm (d - 1) k (i + 1) (by omega) (by omega)]
        simp only [he, List.cons.injEq, true_and]
      · rw [if_neg he]
        simp only [List.cons.injEq, he, false_and, decide_false]
    · rw [if_neg (by omega), List.drop_eq_nil_of_le (by omega), List.drop_eq_nil_of_le (by omega)]
      simp
theorem SameRow_f {a b : List Int} {K : Nat} (hm : a.length < K) (hK : K < 4611686018427387904) {k : Nat} (hk : K ≤ k) : quietusref05_SameRow.f k a b = some (decide (a = b)) := by
  unfold quietusref05_SameRow.f
  by_cases h : (a.length : Int) = b.length
  · rw [if_pos h]
    have := SameRow_l0 (a := a) (b := b) (by omega) (by omega) a.length k 0 (by omega) (by omega)
    simp only [Int.natCast_zero] at this
    rw [this, List.drop_zero, List.drop_zero]
  · rw [if_neg h]
    have : a ≠ b := fun e => h (by rw [e])
    simp [this]
theorem Same_l0 {a b : Grid} {K : Nat} (hK : K < 4611686018427387904) (hr : ∀ r, r ∈ a → r.length < K) (hl : a.length = b.length) (hm : a.length < 4611686018427387904) : ∀ (d k i : Nat), i + d = a.length → d + K < k → quietusref05_Same.l0 k a b i = some (decide (a.drop i = b.drop i))
  | d, 0, i, hd, hk => by omega
  | d, k + 1, i, hd, hk => by
    simp only [quietusref05_Same.l0]
    by_cases hi : i < a.length
    · have hri : (a.getD i []).length < K := by
        rw [List.getD_eq_getElem?_getD, List.getElem?_eq_getElem hi]; exact hr _ (List.getElem_mem hi)
      rw [if_pos (by omega), if_pos (by omega), if_pos (by omega), rdL, rdL, SameRow_f hri hK (by omega), drop_at (m := a) [] hi, drop_at (m := b) [] (hl ▸ hi), Option.bind_some]
      by_cases he : a.getD i [] = b.getD i []
      · rw [if_pos (by simpa using he), wS i (by omega), Same_l0 hK hr hl hm (d - 1) k (i + 1) (by omega) (by omega)]
        simp only [he, List.cons.injEq, true_and]
      · rw [if_neg (by simpa using he)]
        simp only [List.cons.injEq, he, false_and, decide_false]
    · rw [if_neg (by omega), List.drop_eq_nil_of_le (by omega), List.drop_eq_nil_of_le (by omega)]
      simp
theorem Same_f {a b : Grid} {K : Nat} (hK : K < 1000000) (hr : ∀ r, r ∈ a → r.length < K) (hm : a.length < K) {k : Nat} (hk : K + K + 1 ≤ k) : quietusref05_Same.f k a b = some (decide (a = b)) := by
  unfold quietusref05_Same.f
  by_cases h : (a.length : Int) = b.length
  · rw [if_pos h]
    have := Same_l0 (a := a) (b := b) (K := K) (by omega) hr (by omega) (by omega) a.length k 0 (by omega) (by omega)
    simp only [Int.natCast_zero] at this
    rw [this, List.drop_zero, List.drop_zero]
  · rw [if_neg h]
    have : a ≠ b := fun e => h (by rw [e])
    simp [this]
end Go.Proofs.YtijebgceopddmaaDoor.Fn
end
section
set_option linter.unusedVariables false
set_option linter.unusedSimpArgs false
namespace Go.Proofs.YtijebgceopddmaaDoor.Fn
open Go.RowKit Go.Proofs.YtijebgceopddmaaDoorW.PrintWords Go.Proofs.YtijebgceopddmaaDoorW.PrintMore Go.Proofs.YtijebgceopddmaaDoor.Gf Go.Proofs.YtijebgceopddmaaDoor.Pa Go.Proofs.YtijebgceopddmaaDoor.Pr QMat QGf
theorem rowG_range {f : Int → Option Int} {g : Nat → Int} : ∀ (n k : Nat), (∀ q, k ≤ q → q < k + n → f (q : Int) = some (g q)) → Grid.rowG f k n = some ((List.range n).map fun j => g (k + j))
  | 0, k, h => rfl
  | n + 1, k, h => by
    simp only [Grid.rowG]
    rw [h k (Nat.le_refl _) (by omega), Option.bind_some, rowG_range n (k + 1) (fun q h1 h2 => h q (by omega) (by omega)), Option.bind_some, List.range_succ_eq_map]
    simp only [List.map_cons, List.map_map, Nat.add_zero]
    congr 2
    refine List.map_congr_left fun j _ => ?_
    simp only [Function.comp]
    congr 1; omega
theorem gridN_range {f : Int → Int → Option Int} {g : Nat → Nat → Int} {w : Nat} : ∀ (n i : Nat), (∀ p q, i ≤ p → p < i + n → q < w → f (p : Int) (q : Int) = some (g p q)) → Grid.gridN f w i n = some ((List.range n).map fun p => (List.range w).map fun q => g (i + p) q)
  | 0, i, h => rfl
  | n + 1, i, h => by
    simp only [Grid.gridN]
    rw [rowG_range (g := g i) w 0 (fun q _ h2 => h i q (Nat.le_refl _) (by omega) (by omega)), Option.bind_some, gridN_range n (i + 1) (fun p q h1 h2 h3 => h p q (by omega) (by omega) h3), Option.bind_some, List.range_succ_eq_map]
    simp only [List.map_cons, List.map_map, Nat.add_zero, Nat.zero_add]
    congr 2
    refine List.map_congr_left fun j _ => ?_
    simp only [Function.comp]
    refine List.map_congr_left fun q _ => ?_
    congr 1; omega
theorem gridG_build {f : Int → Int → Option Int} {g : Nat → Nat → Int} {h w : Nat} (hh : h ≤ 1000) (hw : w ≤ 1000) (hf : ∀ i j, i < h → j < w → f (i : Int) (j : Int) = some (g i j)) : Grid.gridG f (h : Int) (w : Int) = some (build h w g) := by
  unfold Grid.gridG
  rw [if_pos ⟨by omega, by rw [Int.toNat_natCast]; omega, by omega, by rw [Int.toNat_natCast]; omega⟩, Int.toNat_natCast, Int.toNat_natCast, gridN_range h 0 (fun p q _ h2 h3 => hf p q (by omega) h3)]
  simp only [Nat.zero_add]; rfl
theorem shape_row {m : Grid} {h w i : Nat} (hm : Shape m h w) (hi : i < h) : (m.getD i []).length = w := hm.cols i hi
theorem rdLit {m : List (List Int)} (i : Nat) : Lit.rd_L1 m (i : Int) = m.getD i [] := by unfold Lit.rd_L1; rw [Int.toNat_natCast]
theorem Product1_l0 {r : List Int} {b : Grid} {c : Nat} (hr : ∀ j, Byte (r.getD j 0)) (hb : Bytes b) (hc : ∀ t, t < r.length → c < (b.getD t []).length) (hlen : r.length ≤ b.length) (hl : r.length ≤ 100) : ∀ (d k i : Nat) (acc : Int), i + d = r.length → d + 5 < k → Byte acc → acc = sumI i (fun t => mulI (r.getD t 0) (el b t c)) →
    Lit.matrix_Product_1.l0 k (c : Int) acc r r.length i b = some (sumI r.length fun t => mulI (r.getD t 0) (el b t c))
  | d, 0, i, acc, hd, hk, ha, he => by omega
  | d, k + 1, i, acc, hd, hk, ha, he => by
    simp only [Lit.matrix_Product_1.l0]
    by_cases hi : i < r.length
    · have h1 := hc i hi
      rw [if_pos (by omega), if_pos (by omega), if_pos (by omega), if_pos (by omega), if_pos (by omega), rdLit, if_pos (by omega), rdI, rdI]
      rw [Mul_f (hr i) (show Byte ((b.getD i []).getD c 0) from hb i c) k (by omega), Option.bind_some, wS i (by omega)]
      have hm : Byte (mulI (r.getD i 0) ((b.getD i []).getD c 0)) := byte_mulI (hr i) (hb i c)
      rw [bits_xorI ha hm]
      exact Product1_l0 hr hb hc hlen hl (d - 1) k (i + 1) _ (by omega) (by omega) (byte_xorI ha hm) (by rw [he]; rfl)
    · rw [if_neg (by omega)]
      have : i = r.length := by omega
      rw [he, this]
theorem Product_l0 {a b : Grid} (ha : Bytes a) (hb : Bytes b) (va : Valid a) (vb : Valid b) : ∀ {k : Nat}, 100 ≤ k → matrix_Product.l0 (k + 1) [a, b] 2 2 a b = some (if cols a = b.length then (prodG a b, 0) else ([], 1)) := by
  intro k hk
  simp only [matrix_Product.l0]
  rw [if_neg (by omega), columns_f, Option.bind_some]
  by_cases h : cols a = b.length
  · have sa := va.shape
    have sb := vb.shape
    rw [if_pos (by omega), if_pos h, columns_f, Option.bind_some]
    unfold grid_47.f
    rw [gridG_build (g := fun i j => sumI b.length fun t => mulI (el a i t) (el b t j)) (by have := va.1; omega) (by have := vb.cols_le; omega) (fun i j hi hj => by
      unfold Lit.matrix_Product_1.f
      have hri := shape_row sa hi
      rw [if_pos (by omega), if_pos (by omega), rdLit]
      have := Product1_l0 (r := a.getD i []) (b := b) (c := j) (fun t => ha i t) hb (fun t ht => by rw [shape_row sb (by omega)]; exact hj) (by omega) (by have := va.cols_le; omega) (a.getD i []).length 1000 0 0 (by omega) (by have := va.cols_le; omega) byte_zero rfl
      rw [show ((0 : Nat) : Int) = 0 from rfl] at this
      rw [this, hri, h]; rfl), Option.bind_some]
    rfl
  · rw [if_neg (by omega), if_neg h]
theorem rd4 (a b : Grid) : rd_L4 [a, b] 0 = a ∧ rd_L4 [a, b] 1 = b := ⟨rfl, rfl⟩
def prodE (a b : Grid) : Int := if chk a = 0 then chk b else chk a
theorem Product_f {a b : Grid} (ha : Bytes a) (hb : Bytes b) {k : Nat} (hk : 200 ≤ k) : matrix_Product.f k a b = some (if prodE a b = 0 then (if cols a = b.length then (prodG a b, 0) else ([], 1)) else ([], prodE a b)) := by
  unfold matrix_Product.f
  rw [Option.bind_some]
  obtain ⟨k, rfl⟩ : ∃ q, k = q + 3 := ⟨k - 3, by omega⟩
  show matrix_Product.l0 (k + 2 + 1) [a, b] 2 0 a b = _
  unfold matrix_Product.l0 prodE
  rw [if_pos (by omega), if_pos (by omega), if_pos (by simp), (rd4 a b).1, Check_f a (by omega), Option.bind_some]
  by_cases h1 : chk a = 0
  · rw [if_pos h1, if_pos h1, show wrap64 (0 + 1) = 1 from w64 (by omega)]
    unfold matrix_Product.l0
    rw [if_pos (by omega), if_pos (by omega), if_pos (by simp), (rd4 a b).2, Check_f b (by omega), Option.bind_some]
    by_cases h2 : chk b = 0
    · rw [if_pos h2, if_pos h2, show wrap64 (1 + 1) = 2 from w64 (by omega)]
      exact Product_l0 ha hb (chk_zero.1 h1) (chk_zero.1 h2) (by omega)
    · rw [if_neg h2, if_neg h2]
  · rw [if_neg h1, if_neg h1, if_neg h1]
end Go.Proofs.YtijebgceopddmaaDoor.Fn
end
section
set_option linter.unusedVariables false
set_option linter.unusedSimpArgs false
namespace Go.Proofs.YtijebgceopddmaaDoor.Fn
open Go.RowKit Go.Proofs.YtijebgceopddmaaDoorW.PrintWords Go.Proofs.YtijebgceopddmaaDoorW.PrintMore Go.Proofs.YtijebgceopddmaaDoor.Gf Go.Proofs.YtijebgceopddmaaDoor.Prt QMat QGf
theorem rdP {m : List (List Int)} (i : Nat) : Prt.rd_L1 m (i : Int) = m.getD i [] := by unfold Prt.rd_L1; rw [Int.toNat_natCast]
def Ev {α : Type} (f : Nat → Option α) (r : α) : Prop := ∃ K, ∀ k, K ≤ k → f k = some r
theorem Ev.of {α : Type} {f g : Nat → Option α} {r : α} (h : Ev g r) (K : Nat) (e : ∀ k, K ≤ k → f (k + 1) = g k) : Ev f r := by
  obtain ⟨M, hM⟩ := h
  refine ⟨M + K + 1, fun k hk => ?_⟩
  obtain ⟨k', rfl⟩ : ∃ k', k = k' + 1 := ⟨k - 1, by omega⟩
  rw [e k' (by omega)]; exact hM k' (by omega)
theorem Ev.sub {α : Type} {f g : Nat → Option α} {r : α} (h : Ev g r) (K : Nat) (e : ∀ k, K ≤ k → f k = g k) : Ev f r := by
  obtain ⟨M, hM⟩ := h
  exact ⟨M + K, fun k hk => by rw [e k (by omega)]; exact hM k (by omega)⟩
theorem Ev.val {α : Type} {f : Nat → Option α} {r : α} (K : Nat) (e : ∀ k, K ≤ k → f k = some r) : Ev f r := ⟨K, e⟩
theorem Ev.bind {α β : Type} {f : Nat → Option α} {a : α} {g : Nat → α → Option β} {r : β} (h : Ev f a) (h2 : Ev (fun k => g k a) r) : Ev (fun k => (f k).bind (g k)) r := by
  obtain ⟨M, hM⟩ := h
  obtain ⟨M2, hM2⟩ := h2
  exact ⟨M + M2, fun k hk => by show (f k).bind (g k) = _; rw [hM k (by omega)]; exact hM2 k (by omega)⟩
theorem rd_build {h w : Nat} {G : Nat → Nat → Int} {i : Nat} (hi : i < h) : rd_L1 (build h w G) (i : Int) = (List.range w).map (G i) := by
  unfold rd_L1; rw [Int.toNat_natCast, build_row h w G i hi]
theorem rd_row {w : Nat} {G : Nat → Int} {j : Nat} (hj : j < w) : rd ((List.range w).map G) (j : Int) = G j := by
  rw [rdI]; simp [List.getD_eq_getElem?_getD, List.getElem?_map, List.getElem?_range hj]
theorem build_congr {h w : Nat} {G G' : Nat → Nat → Int} (e : ∀ a b, a < h → b < w → G a b = G' a b) : build h w G = build h w G' :=
  grid_ext (shape_build _ _ _) (shape_build _ _ _) fun i j hi hj => by rw [el_build _ _ _ _ _ hi hj, el_build _ _ _ _ _ hi hj]; exact e i j hi hj
theorem build_set {h w : Nat} {G : Nat → Nat → Int} {i : Nat} (F : Nat → Int) : (build h w G).set i ((List.range w).map F) = build h w fun a b => if a = i then F b else G a b := by
  unfold build
  apply List.ext_getElem (by simp)
  intro n h1 h2
  simp only [List.getElem_set, List.getElem_map, List.getElem_range]
  by_cases e : i = n
  · subst e; simp
  · rw [if_neg e]
    refine List.map_congr_left fun b _ => ?_
    rw [if_neg (fun h => e h.symm)]
theorem row_set {w j : Nat} {F : Nat → Int} {v : Int} : ((List.range w).map F).set j v = (List.range w).map fun b => if b = j then v else F b := by
  apply List.ext_getElem (by simp)
  intro n h1 h2
  simp only [List.getElem_set, List.getElem_map, List.getElem_range]
  by_cases e : j = n
  · subst e; simp
  · rw [if_neg e, if_neg (fun h => e h.symm)]
theorem len_build (h w : Nat) (G : Nat → Nat → Int) : (build h w G).length = h := by simp [build]
theorem len_row (w : Nat) (F : Nat → Int) : ((List.range w).map F).length = w := by simp
theorem mulI_comm {a b : Int} (ha : Byte a) (hb : Byte b) : mulI a b = mulI b a := by
  unfold mulI; rw [gm_comm (by have := ha.2; have := ha.1; omega) (by have := hb.2; have := hb.1; omega)]
theorem mulI_zero {b : Int} (hb : Byte b) : mulI 0 b = 0 := by
  unfold mulI; rw [show (0 : Int).toNat = 0 from rfl, zero_gm (by have := hb.2; have := hb.1; omega)]; rfl
theorem xorI_zero {b : Int} (hb : Byte b) : xorI b 0 = b := by
  unfold xorI; rw [show (0 : Int).toNat = 0 from rfl, Nat.xor_zero]; have := hb.1; omega
section
variable {h w r c : Nat} {G : Nat → Nat → Int} {x6 : List Int} {R : Grid × List Int} {x44 x45 : Int}
theorem red_l5 (hh : h < 1000) (hw : w < 1000) (hG : ∀ a b, Byte (G a b)) (hr : r < h) {i : Nat} (hi : i < h) (hne : i ≠ r) {e : Int} (he : Byte e)
    (hc : Ev (fun k => matrix_reduce.l4 k (build h w fun a b => if a = i then xorI (G a b) (mulI e (G r b)) else G a b) x6 c r x44 x45 h ((i + 1 : Nat) : Int)) R) :
    ∀ d j, j + d = w → Ev (fun k => matrix_reduce.l5 k (build h w fun a b => if a = i ∧ b < j then xorI (G a b) (mulI e (G r b)) else G a b) x6 c r i e x44 x45 h i w j) R
  | 0, j, hj => by
    refine hc.of 0 fun k _ => ?_
    simp only [matrix_reduce.l5]
    rw [if_neg (by omega), wS i (by omega)]
    congr 1
    refine build_congr fun a b _ hb => ?_
    by_cases ha : a = i
    · rw [if_pos ⟨ha, by omega⟩, if_pos ha]
    · rw [if_neg (fun h => ha h.1), if_neg ha]
  | d + 1, j, hj => by
    refine (red_l5 hh hw hG hr hi hne he hc d (j + 1) (by omega)).of 20 fun k hk => ?_
    simp only [matrix_reduce.l5]
    rw [rd_build hi, rd_build hr, len_build, len_row, len_row, rd_row (show j < w by omega), rd_row (show j < w by omega)]
    rw [if_pos (by omega), if_pos (by omega), if_pos (by omega), if_pos (by omega), if_pos (by omega), if_pos (by omega), if_pos (by omega), if_pos (by omega)]
    rw [if_neg (by omega), if_neg (by omega), Mul_f he (hG r j) k (by omega), Option.bind_some, bits_xorI (hG i j) (byte_mulI he (hG r j)), wS j (by omega), Int.toNat_natCast, Int.toNat_natCast, row_set, build_set]
    congr 1
    refine build_congr fun a b _ hb => ?_
    by_cases ha : a = i
    · subst ha
      rw [if_pos rfl]
      by_cases hb : b = j
      · subst hb; rw [if_pos rfl, if_pos ⟨rfl, by omega⟩]
      · rw [if_neg hb]
        by_cases hb2 : b < j
        · rw [if_pos ⟨rfl, hb2⟩, if_pos ⟨rfl, by omega⟩]
        · rw [if_neg (fun h => hb2 h.2), if_neg (fun h => by omega)]
    · rw [if_neg ha, if_neg (fun h => ha h.1), if_neg (fun h => ha h.1)]
theorem red_l4 (hh : h < 1000) (hw : w < 1000) (hG : ∀ a b, Byte (G a b)) (hr : r < h) (hcw : c < w) (h6 : x6.length < 1000)
    (hc : Ev (fun k => matrix_reduce.l1 k (build h w fun a b => if a ≠ r then xorI (G a b) (mulI (G a c) (G r b)) else G a b) (x6 ++ [(c : Int)]) x44 (wrap64 (x45 + 1))) R) :
    ∀ d i, i + d = h → Ev (fun k => matrix_reduce.l4 k (build h w fun a b => if a < i ∧ a ≠ r then xorI (G a b) (mulI (G a c) (G r b)) else G a b) x6 c r x44 x45 h i) R
  | 0, i, hi => by
    refine hc.of 0 fun k _ => ?_
    simp only [matrix_reduce.l4]
    rw [if_neg (by omega), if_pos (by omega)]
    congr 1
    refine build_congr fun a b ha hb => ?_
    by_cases h : a ≠ r
    · rw [if_pos ⟨by omega, h⟩, if_pos h]
    · rw [if_neg (fun x => h x.2), if_neg h]
  | d + 1, i, hi => by
    have ih := red_l4 hh hw hG hr hcw h6 hc d (i + 1) (by omega)
    by_cases hir : i = r
    · refine ((ih.of 0 (f := fun k => matrix_reduce.j5 k (build h w fun a b => if a < i ∧ a ≠ r then xorI (G a b) (mulI (G a c) (G r b)) else G a b) x6 c r i (G i c) x44 x45 h i false) fun k _ => ?_).of 0 fun k _ => ?_)
      · simp only [matrix_reduce.j5]
        rw [if_neg (by simp), wS i (by omega)]
        congr 1
        refine build_congr fun a b ha hb => ?_
        by_cases h : a ≠ r
        · by_cases h2 : a < i
          · rw [if_pos ⟨h2, h⟩, if_pos ⟨by omega, h⟩]
          · rw [if_neg (fun x => h2 x.1), if_neg (fun x => by omega)]
        · rw [if_neg (fun x => h x.2), if_neg (fun x => h x.2)]
      · simp only [matrix_reduce.l4]
        rw [rd_build (show i < h by omega), len_build, len_row, rd_row hcw, if_pos (by omega), if_pos (by omega), if_pos (by omega), if_pos (by omega), if_pos (by omega), if_pos (by omega), if_neg (fun x => by omega)]
    · have hval : (if i < i ∧ i ≠ r then xorI (G i c) (mulI (G i c) (G r c)) else G i c) = G i c := if_neg (fun x => by omega)
      by_cases hz : G i c = 0
      · refine ((ih.of 0 (f := fun k => matrix_reduce.j5 k (build h w fun a b => if a < i ∧ a ≠ r then xorI (G a b) (mulI (G a c) (G r b)) else G a b) x6 c r i (G i c) x44 x45 h i false) fun k _ => ?_).of 0 fun k _ => ?_)
        · simp only [matrix_reduce.j5]
          rw [if_neg (by simp), wS i (by omega)]
          congr 1
          refine build_congr fun a b ha hb => ?_
          by_cases h : a ≠ r
          · by_cases h2 : a < i
            · rw [if_pos ⟨h2, h⟩, if_pos ⟨by omega, h⟩]
            · by_cases h3 : a = i
              · subst h3
                rw [if_neg (fun x => h2 x.1), if_pos ⟨by omega, h⟩, hz, mulI_zero (hG r b), xorI_zero (hG a b)]
              · rw [if_neg (fun x => h2 x.1), if_neg (fun x => by omega)]
          · rw [if_neg (fun x => h x.2), if_neg (fun x => h x.2)]
        · simp only [matrix_reduce.l4]
          rw [rd_build (show i < h by omega), len_build, len_row, rd_row hcw, if_pos (by omega), if_pos (by omega), if_pos (by omega), if_pos (by omega), if_pos (by omega), if_neg (by omega), hval, hz]
          rfl
      · have h5 := red_l5 (G := fun a b => if a < i ∧ a ≠ r then xorI (G a b) (mulI (G a c) (G r b)) else G a b) (x6 := x6) (c := c) (x44 := x44) (x45 := x45) (R := R) hh hw (fun a b => by
          show Byte (if a < i ∧ a ≠ r then _ else _)
          split
          · exact byte_xorI (hG _ _) (byte_mulI (hG _ _) (hG _ _))
          · exact hG _ _) hr (show i < h by omega) hir (hG i c) ?_ w 0 (by omega)
        · refine ((h5.of 0 (f := fun k => matrix_reduce.j5 k (build h w fun a b => if a < i ∧ a ≠ r then xorI (G a b) (mulI (G a c) (G r b)) else G a b) x6 c r i (G i c) x44 x45 h i true) fun k _ => ?_).of 0 fun k _ => ?_)
          · simp only [matrix_reduce.j5]
            rw [if_pos trivial, rd_build (show i < h by omega), len_build, len_row, if_pos (by omega), if_pos (by omega)]
            simp
          · simp only [matrix_reduce.l4]
            rw [rd_build (show i < h by omega), len_build, len_row, rd_row hcw, if_pos (by omega), if_pos (by omega), if_pos (by omega), if_pos (by omega), if_pos (by omega), if_neg (by omega), hval]
            have : (G i c != 0) = true := by simpa using hz
            rw [this]
        · refine ih.sub 0 fun k _ => ?_
          congr 1
          refine build_congr fun a b ha hb => ?_
          by_cases h3 : a = i
          · subst h3
            rw [if_pos rfl, if_neg (fun x => by omega), if_neg (fun x => by omega), if_pos ⟨by omega, hir⟩]
          · rw [if_neg h3]
            by_cases h : a < i ∧ a ≠ r
            · rw [if_pos h, if_pos ⟨by omega, h.2⟩]
            · rw [if_neg h, if_neg (fun x => h ⟨by omega, x.2⟩)]
theorem red_l3 (hh : h < 1000) (hw : w < 1000) (hG : ∀ a b, Byte (G a b)) (hr : r < h) {v : Int} (hv : Byte v)
    (hc : Ev (fun k => matrix_reduce.l4 k (build h w fun a b => if a = r then mulI (G a b) v else G a b) x6 c r x44 x45 h 0) R) :
    ∀ d j, j + d = w → Ev (fun k => matrix_reduce.l3 k (build h w fun a b => if a = r ∧ b < j then mulI (G a b) v else G a b) x6 c r v x44 x45 w j) R
  | 0, j, hj => by
    refine hc.of 0 fun k _ => ?_
    simp only [matrix_reduce.l3]
    rw [if_neg (by omega), len_build]
    congr 1
    refine build_congr fun a b _ hb => ?_
    by_cases ha : a = r
    · rw [if_pos ⟨ha, by omega⟩, if_pos ha]
    · rw [if_neg (fun h => ha h.1), if_neg ha]
  | d + 1, j, hj => by
    refine (red_l3 hh hw hG hr hv hc d (j + 1) (by omega)).of 20 fun k hk => ?_
    simp only [matrix_reduce.l3]
    rw [rd_build hr, len_build, len_row, rd_row (show j < w by omega)]
    rw [if_pos (by omega), if_pos (by omega), if_pos (by omega), if_pos (by omega), if_pos (by omega)]
    rw [if_neg (by omega), Mul_f (hG r j) hv k (by omega), Option.bind_some, wS j (by omega), Int.toNat_natCast, Int.toNat_natCast, row_set, build_set]
    congr 1
    refine build_congr fun a b _ hb => ?_
    by_cases ha : a = r
    · subst ha
      rw [if_pos rfl]
      by_cases hb : b = j
      · subst hb; rw [if_pos rfl, if_pos ⟨rfl, by omega⟩]
      · rw [if_neg hb]
        by_cases hb2 : b < j
        · rw [if_pos ⟨rfl, hb2⟩, if_pos ⟨rfl, by omega⟩]
        · rw [if_neg (fun h => hb2 h.2), if_neg (fun h => by omega)]
    · rw [if_neg ha, if_neg (fun h => ha h.1), if_neg (fun h => ha h.1)]
theorem swap_build {q : Nat} (hr : r < h) (hq : q < h) : Pr.swapL (build h w G) r q = some (build h w fun a b => G (if a = r then q else if a = q then r else a) b) := by
  unfold Pr.swapL
  rw [if_pos (by rw [len_build]; omega), Int.toNat_natCast, Int.toNat_natCast, build_row h w G q hq, build_row h w G r hr, build_set, build_set]
  congr 1
  refine build_congr fun a b _ _ => ?_
  by_cases h1 : a = q
  · subst h1
    rw [if_pos rfl]
    by_cases h2 : a = r
    · subst h2; rw [if_pos rfl]
    · rw [if_neg h2, if_pos rfl]
  · rw [if_neg h1]
    by_cases h2 : a = r
    · rw [if_pos h2, if_pos h2]
    · rw [if_neg h2, if_neg h2, if_neg h1]
theorem red_found {m : Grid} (sm : Shape m h w) (hb : Bytes m) (hh : h < 1000) (hw : w < 1000) (hr : r < h) {q : Nat} (hq : q < h) (hcw : c < w) (hz : el m q c ≠ 0) (h6 : x6.length < 1000)
    (hc : Ev (fun k => matrix_reduce.l1 k (clearG m r q c) (x6 ++ [(c : Int)]) x44 (wrap64 (x45 + 1))) R) :
    Ev (fun k => (Pr.swapL m r q).bind fun t117 => (if 0 ≤ (r : Int) then (if (r : Int) < (m.length : Int) then (if (c : Int) < ((rd_L1 t117 r).length : Int) then ((gf_Inv.f k (rd (rd_L1 t117 r) c)).bind fun bt120 => (matrix_reduce.l3 k t117 x6 c r bt120.1 x44 x45 ((rd_L1 t117 r).length : Int) 0)) else (none)) else (none)) else (none))) R := by
  have hm : m = build h w (el m) := (build_el sm).symm
  have hS : Pr.swapL m r q = some (build h w fun a b => el m (if a = r then q else if a = q then r else a) b) := by
    conv => lhs; rw [hm]
    exact swap_build hr hq
  have hB : ∀ a b, Byte (el m (if a = r then q else if a = q then r else a) b) := fun a b => hb _ _
  have hv : Byte (invI (el m q c)) := byte_invI (hb q c)
  have h3 := red_l3 (G := fun a b => el m (if a = r then q else if a = q then r else a) b) (x6 := x6) (c := c) (x44 := x44) (x45 := x45) (R := R) hh hw hB hr hv ?_ w 0 (by omega)
  · refine h3.sub 20 fun k hk => ?_
    simp only [hS, Option.bind_some]
    rw [rd_build hr, len_row, rd_row hcw, if_pos (by omega), if_pos (by rw [sm.rows]; omega), if_pos (by omega)]
    have e : el m (if r = r then q else if r = q then r else r) c = el m q c := by rw [if_pos rfl]
    rw [e, Inv_f (hb q c) k (by omega), Option.bind_some, if_neg hz]
    simp
  · have h4 := red_l4 (G := fun a b => if a = r then mulI (el m (if a = r then q else if a = q then r else a) b) (invI (el m q c)) else el m (if a = r then q else if a = q then r else a) b) (x6 := x6) (c := c) (x44 := x44) (x45 := x45) (R := R) hh hw (fun a b => by
      show Byte (if a = r then _ else _)
      split
      · exact byte_mulI (hb _ _) hv
      · exact hb _ _) hr hcw h6 ?_ h 0 (by omega)
    · refine h4.sub 0 fun k _ => ?_
      simp
    · refine hc.sub 0 fun k _ => ?_
      congr 1
      unfold clearG
      rw [sm.rows, shape_cols sm (by omega)]
      refine build_congr fun a b _ _ => ?_
      by_cases ha : a = r
      · subst ha
        rw [if_neg (by simp), if_pos rfl, if_pos rfl, if_pos rfl]
        exact mulI_comm (hb _ _) hv
      · simp only [if_neg ha, if_pos ha, if_true, mulI_comm (hb q b) hv, ne_eq, ha, not_false_eq_true, if_false]
        by_cases h2 : a = q
        · rw [if_pos h2, if_pos h2, if_pos h2]
        · rw [if_neg h2, if_neg h2, if_neg h2]
theorem red_l2 {m : Grid} (sm : Shape m h w) (hb : Bytes m) (hh : h < 1000) (hw : w < 1000) (hr : r ≤ h) (hcw : c < w) (h6 : x6.length < 1000) :
    ∀ d i, i + d = h → r ≤ i → (∀ q, findFrom m c i d = some q → Ev (fun k => matrix_reduce.l1 k (clearG m r q c) (x6 ++ [(c : Int)]) x44 (wrap64 (x45 + 1))) R) →
      (findFrom m c i d = none → Ev (fun k => matrix_reduce.l1 k m x6 x44 (wrap64 (x45 + 1))) R) → Ev (fun k => matrix_reduce.l2 k m x6 c r i x44 x45) R
  | 0, i, hi, hri, _, h2 => by
    refine (h2 rfl).of 0 fun k _ => ?_
    simp only [matrix_reduce.l2]
    rw [if_neg (by rw [sm.rows]; omega)]
  | d + 1, i, hi, hri, h1, h2 => by
    have hrow : rd_L1 m (i : Int) = m.getD i [] := rdP i
    have hlen : (m.getD i []).length = w := sm.cols i (by omega)
    by_cases hz : el m i c = 0
    · have ff : findFrom m c i (d + 1) = findFrom m c (i + 1) d := by
        show (if el m i c ≠ 0 then some i else findFrom m c (i + 1) d) = _
        rw [if_neg (fun h => h hz)]
      refine (red_l2 sm hb hh hw hr hcw h6 d (i + 1) (by omega) (by omega) (fun q hq => h1 q (by rw [ff]; exact hq)) (fun hn => h2 (by rw [ff]; exact hn))).of 0 fun k _ => ?_
      simp only [matrix_reduce.l2]
      rw [if_pos (by rw [sm.rows]; omega), if_pos (by omega), if_pos (by omega), hrow, hlen, if_pos (by omega), rdI]
      show (if el m i c = 0 then _ else _) = _
      rw [if_pos hz, wS i (by omega)]
    · have ff : findFrom m c i (d + 1) = some i := by
        show (if el m i c ≠ 0 then some i else findFrom m c (i + 1) d) = _
        rw [if_pos hz]
      refine (red_found sm hb hh hw (show r < h by omega) (show i < h by omega) hcw hz h6 (h1 i ff)).of 0 fun k _ => ?_
      simp only [matrix_reduce.l2]
      rw [if_pos (by rw [sm.rows]; omega), if_pos (by omega), if_pos (by omega), hrow, hlen, if_pos (by omega), rdI]
      show (if el m i c = 0 then _ else _) = _
      rw [if_neg hz]
end
def intsL (p : List Nat) : List Int := p.map fun (n : Nat) => (n : Int)
theorem red_l1 {m : Grid} {h w : Nat} (sm : Shape m h w) (hb : Bytes m) (hh : h < 1000) (hw : w < 1000) : ∀ d c, c + d = w →
    Ev (fun k => matrix_reduce.l1 k (elim m c).g (intsL (elim m c).p) w c) ((elim m w).g.take (elim m w).p.length, intsL (elim m w).p)
  | 0, c, hc => by
    obtain rfl : c = w := by omega
    have hg := good_elim sm hb c (Nat.le_refl _)
    have hle := hg.part.le
    refine .val 1 fun k hk => ?_
    obtain ⟨k', rfl⟩ : ∃ k', k = k' + 1 := ⟨k - 1, by omega⟩
    have hl : (intsL (elim m c).p).length = (elim m c).p.length := by simp [intsL]
    simp only [matrix_reduce.l1]
    rw [if_neg (by omega), hl, if_pos (by omega), if_pos (by rw [hg.shape.rows]; omega), Int.toNat_natCast]
  | d + 1, c, hc => by
    have ih := red_l1 sm hb hh hw d (c + 1) (by omega)
    have hg := good_elim sm hb c (by omega)
    have hle := hg.part.le
    have hl : (intsL (elim m c).p).length = (elim m c).p.length := by simp [intsL]
    have hs : elim m (c + 1) = QMat.stepG (elim m c) c := rfl
    refine (red_l2 (x6 := intsL (elim m c).p) (x44 := (w : Int)) (x45 := (c : Int)) (R := ((elim m w).g.take (elim m w).p.length, intsL (elim m w).p)) (r := (elim m c).p.length) (c := c) hg.shape hg.bytes hh hw hle (by omega) (by omega) (h - (elim m c).p.length) (elim m c).p.length (by omega) (Nat.le_refl _) (fun q hq => ?_) (fun hn => ?_)).of 0 fun k _ => ?_
    · have e : find (elim m c).g (elim m c).p.length c = some q := by unfold find; rw [hg.shape.rows]; exact hq
      rw [hs] at ih
      unfold QMat.stepG at ih
      rw [e] at ih
      rw [wS c (by omega)]
      refine ih.sub 0 fun k _ => ?_
      simp [intsL]
    · have e : find (elim m c).g (elim m c).p.length c = none := by unfold find; rw [hg.shape.rows]; exact hn
      rw [hs] at ih
      unfold QMat.stepG at ih
      rw [e] at ih
      rw [wS c (by omega)]
      exact ih
    · simp only [matrix_reduce.l1]
      rw [if_pos (by omega), hl]
theorem columns_f' (m : Grid) : Prt.matrix_columns.f m = some (cols m : Int) := by
  unfold Prt.matrix_columns.f cols
  cases m with
  | nil => simp
  | cons r m => rw [if_neg (by simp only [List.length_cons]; omega), if_pos (by simp only [List.length_cons]; omega), show (0 : Int) = ((0 : Nat) : Int) from rfl, rdP]
theorem red_l0 {m : Grid} {R : Grid × List Int} (hh : m.length < 1000) (hw : ∀ r, r ∈ m → r.length < 1000) (hc : Ev (fun k => matrix_reduce.l1 k m [] (cols m) 0) R) : ∀ d i, i + d = m.length →
    Ev (fun k => matrix_reduce.l0 k m (m.take i ++ List.replicate d []) m.length i) R
  | 0, i, hi => by
    refine hc.of 0 fun k _ => ?_
    simp only [matrix_reduce.l0]
    rw [if_neg (by omega), columns_f', Option.bind_some, List.take_of_length_le (by omega)]
    simp
  | d + 1, i, hi => by
    refine (red_l0 hh hw hc d (i + 1) (by omega)).of 0 fun k _ => ?_
    have hil : i < m.length := by omega
    have hrow : rd_L1 m (i : Int) = m.getD i [] := rdP i
    have hmem : m.getD i [] ∈ m := by
      rw [List.getD_eq_getElem?_getD, List.getElem?_eq_getElem hil]; exact List.getElem_mem hil
    have hl := hw _ hmem
    have hlen : (m.take i ++ List.replicate (d + 1) ([] : List Int)).length = m.length := by simp; omega
    simp only [matrix_reduce.l0]
    rw [if_pos (by omega), if_pos (by omega), if_pos (by omega), hrow, if_pos (by omega), if_pos (by omega), hlen, if_pos (by omega), Int.toNat_natCast, Int.toNat_natCast]
    have hc : Pr.copyL ((m.take i ++ List.replicate (d + 1) ([] : List Int)).set i (List.replicate (m.getD i []).length 0)) m i = some (m.take (i + 1) ++ List.replicate d []) := by
      unfold Pr.copyL
      rw [if_pos (by rw [List.length_set, hlen]; omega)]
      unfold KdMore.copyAt
      rw [Int.toNat_natCast]
      congr 1
      have hset : ((m.take i ++ List.replicate (d + 1) ([] : List Int)).set i (List.replicate (m.getD i []).length 0)).getD i [] = List.replicate (m.getD i []).length 0 := by
        rw [List.getD_eq_getElem?_getD, List.getElem?_set_self (by rw [hlen]; exact hil)]; rfl
      rw [hset, List.set_set]
      have hcop : KdMore.copied (m.getD i []) (List.replicate (m.getD i []).length 0) = m.getD i [] := by simp [KdMore.copied]
      rw [hcop, List.set_append_right _ _ (by simp; omega)]
      have : i - (m.take i).length = 0 := by simp; omega
      rw [this, List.replicate_succ, List.set_cons_zero, List.take_succ_eq_append_getElem hil, List.append_assoc]
      congr 2
      rw [List.getD_eq_getElem?_getD, List.getElem?_eq_getElem hil]; rfl
    rw [hc, Option.bind_some, wS i (by omega)]
theorem reduce_ev {m : Grid} (vm : Valid m) (hb : Bytes m) : Ev (fun k => matrix_reduce.f k m) ((reduce m).1, intsL (reduce m).2) := by
  have h1 := vm.1
  have h2 := vm.cols_le
  have hl := red_l1 vm.shape hb (by omega) (by omega) (cols m) 0 (by omega)
  have h0 := red_l0 (m := m) (by omega) (fun r hr => by have := vm.2.1 r hr; omega) (R := ((reduce m).1, intsL (reduce m).2)) hl m.length 0 (by omega)
  refine h0.sub 0 fun k _ => ?_
  unfold matrix_reduce.f
  rw [if_pos (by omega), if_pos (by omega), Int.toNat_natCast]
  simp
end Go.Proofs.YtijebgceopddmaaDoor.Fn
end
section
set_option linter.unusedVariables false
set_option linter.unusedSimpArgs false
namespace Go.Proofs.YtijebgceopddmaaDoor.Fn
open Go.RowKit Go.Proofs.YtijebgceopddmaaDoorW.PrintWords Go.Proofs.YtijebgceopddmaaDoorW.PrintMore Go.Proofs.YtijebgceopddmaaDoor.Gf Go.Proofs.YtijebgceopddmaaDoor.Pa Go.Proofs.YtijebgceopddmaaDoor.Pr QMat QGf QLin
theorem Ev.some {α : Type} (r : α) : Ev (fun _ => some r) r := ⟨0, fun _ _ => rfl⟩
theorem Reduce_ev {m : Grid} (hb : Bytes m) : Ev (fun k => matrix_Reduce.f k m) (if chk m = 0 then ((reduce m).1, intsL (reduce m).2, 0) else ([], [], chk m)) := by
  by_cases hc : chk m = 0
  · rw [if_pos hc]
    refine Ev.sub (g := fun k => (Prt.matrix_reduce.f k m).bind fun bt112 => some (bt112.1, bt112.2, 0)) (Ev.bind (reduce_ev (chk_zero.1 hc) hb) (Ev.some _)) 100 fun k hk => ?_
    show matrix_Reduce.f k m = _
    unfold matrix_Reduce.f
    rw [Check_f m hk, Option.bind_some, if_pos hc]
  · rw [if_neg hc]
    refine .val 100 fun k hk => ?_
    show matrix_Reduce.f k m = _
    unfold matrix_Reduce.f
    rw [Check_f m hk, Option.bind_some, if_neg hc]
theorem Rank_ev {m : Grid} (hb : Bytes m) : Ev (fun k => matrix_Rank.f k m) (if chk m = 0 then ((rankG m : Int), 0) else (0, chk m)) := by
  obtain ⟨K, hK⟩ := Reduce_ev hb
  refine .val K fun k hk => ?_
  show matrix_Rank.f k m = _
  unfold matrix_Rank.f
  have hK' := hK k hk
  dsimp only at hK'
  rw [hK', Option.bind_some]
  by_cases hc : chk m = 0
  · rw [if_pos hc, if_pos hc]; simp [rankG, intsL]
  · rw [if_neg hc, if_neg hc]; rfl
theorem Rank_valid {m : Grid} (vm : Valid m) (hb : Bytes m) : Ev (fun k => matrix_Rank.f k m) ((rankG m : Int), 0) := by
  have := Rank_ev hb; rw [if_pos (chk_zero.2 vm)] at this; exact this
theorem reduce_big {m : Grid} (hb : Bytes m) {h w : Nat} (sm : Shape m h w) (hw : cols m = w) (hh : h < 1000) (hw2 : w < 1000) : Ev (fun k => Prt.matrix_reduce.f k m) ((reduce m).1, intsL (reduce m).2) := by
  have hl := red_l1 sm hb (by omega) (by omega) w 0 (by omega)
  rw [← hw] at hl
  have hr : ∀ r, r ∈ m → r.length < 1000 := fun r hr => by
    obtain ⟨i, hi, rfl⟩ := List.getElem_of_mem hr
    have := sm.cols i (by rw [← sm.rows]; exact hi)
    rw [List.getD_eq_getElem?_getD, List.getElem?_eq_getElem hi] at this
    simp only [Option.getD_some] at this; omega
  have hlen := sm.rows
  have h0 := red_l0 (m := m) (by omega) hr (R := ((reduce m).1, intsL (reduce m).2)) hl m.length 0 (by omega)
  refine h0.sub 0 fun k _ => ?_
  show Prt.matrix_reduce.f k m = _
  unfold Prt.matrix_reduce.f
  rw [if_pos (by omega), if_pos (by omega), Int.toNat_natCast]
  simp
def upto (p : List Nat) : Bool := decide (∀ k, k < p.length → piv p k = k)
theorem rd_ints {p : List Nat} {i : Nat} : rd (intsL p) (i : Int) = (piv p i : Int) := by
  rw [rdI]; unfold intsL piv
  rw [List.getD_eq_getElem?_getD, List.getD_eq_getElem?_getD, List.getElem?_map]
  cases p[i]? <;> rfl
theorem len_ints (p : List Nat) : (intsL p).length = p.length := by simp [intsL]
theorem Inverse_l0 {p : List Nat} {n : Nat} {R : Grid} {Y : Grid × Int} (hp : p.length < 1000) (hc : Ev (fun _ => (grid_45.f (n : Int) (n : Int) R (n : Int)).bind fun t => some (t, 0)) Y) :
    ∀ d i, i + d = p.length → (∀ k, k < i → piv p k = k) → Ev (fun k => matrix_Inverse.l0 k (intsL p) p.length i n R) (if (∀ k, k < p.length → piv p k = k) then Y else ([], 8))
  | 0, i, hi, ha => by
    rw [if_pos (fun k hk => ha k (by omega))]
    refine hc.of 0 fun k _ => ?_
    simp only [matrix_Inverse.l0]
    rw [if_neg (by omega)]
  | d + 1, i, hi, ha => by
    by_cases h : piv p i = i
    · refine (Inverse_l0 hp hc d (i + 1) (by omega) (fun k hk => by
        by_cases e : k = i
        · rw [e]; exact h
        · exact ha k (by omega))).of 0 fun k _ => ?_
      simp only [matrix_Inverse.l0]
      rw [if_pos (by omega), if_pos (by omega), len_ints, if_pos (by omega), rd_ints, if_pos (by omega), wS i (by omega)]
    · rw [if_neg (fun x => h (x i (by omega)))]
      refine .val 1 fun k hk => ?_
      obtain ⟨k', rfl⟩ : ∃ k', k = k' + 1 := ⟨k - 1, by omega⟩
      show matrix_Inverse.l0 (k' + 1) _ _ _ _ _ = _
      simp only [matrix_Inverse.l0]
      rw [if_pos (by omega), if_pos (by omega), len_ints, if_pos (by omega), rd_ints, if_neg (by omega)]
def invE (m : Grid) : Grid × Int := if chk m = 0 then (if cols m = m.length then (match invG m with | some b => (b, 0) | none => ([], 8)) else ([], 1)) else ([], chk m)
theorem Inverse_ev {m : Grid} (hb : Bytes m) : Ev (fun k => matrix_Inverse.f k m) (invE m) := by
  unfold invE
  by_cases hc : chk m = 0
  · have vm := chk_zero.1 hc
    have h48 := vm.1
    rw [if_pos hc]
    by_cases hs : cols m = m.length
    · rw [if_pos hs]
      have sm : Shape m m.length m.length := by have := vm.shape; rwa [hs] at this
      have s := inv_of hb
      have e44 : grid_44.f (m.length : Int) (wrap64 (2 * (m.length : Int))) (m.length : Int) m = some (augIG m) := by
        have hw2 : wrap64 (2 * (m.length : Int)) = ((m.length + m.length : Nat) : Int) := by unfold wrap64; omega
        unfold grid_44.f
        rw [hw2]
        refine gridG_build (by omega) (by omega) fun i j hi hj => ?_
        unfold Lit.matrix_Inverse_1.f
        have hr := shape_row sm hi
        by_cases h : j < m.length
        · rw [if_pos (by omega), if_pos (by omega), if_pos (by omega), if_pos (by omega), rdLit, if_pos (by rw [hr]; omega), rdI, if_pos h]; rfl
        · have hw : wrap64 ((m.length : Int) + (i : Int)) = ((m.length + i : Nat) : Int) := by unfold wrap64; omega
          rw [if_neg (by omega), hw, if_neg h]
          by_cases h2 : j = m.length + i
          · rw [if_pos (by omega), if_pos h2]
          · rw [if_neg (by omega), if_neg h2]
      have e45 : grid_45.f (m.length : Int) (m.length : Int) (reduce (augIG m)).1 (m.length : Int) = some (build m.length m.length fun i j => el (reduce (augIG m)).1 i (m.length + j)) := by
        unfold grid_45.f
        refine gridG_build (by omega) (by omega) fun i j hi hj => ?_
        unfold Lit.matrix_Inverse_2.f
        have hr := shape_row s.shape hi
        have hw : wrap64 ((m.length : Int) + (j : Int)) = ((m.length + j : Nat) : Int) := by unfold wrap64; omega
        have hl := s.shape.rows
        rw [if_pos (by omega), if_pos (by omega), hw, if_pos (by omega), rdLit, if_pos (by rw [hr]; omega), rdI]; rfl
      have hl := Inverse_l0 (p := (reduce (augIG m)).2) (n := m.length) (R := (reduce (augIG m)).1) (Y := (build m.length m.length fun i j => el (reduce (augIG m)).1 i (m.length + j), 0)) (by rw [s.len]; omega) (.val 0 fun k _ => by show Option.bind _ _ = _; rw [e45, Option.bind_some]) (reduce (augIG m)).2.length 0 (by omega) (fun k hk => by omega)
      have hred : Ev (fun k => Prt.matrix_reduce.f k (augIG m)) ((reduce (augIG m)).1, intsL (reduce (augIG m)).2) := by
        rcases Nat.eq_zero_or_pos m.length with h0 | h0
        · have e : augIG m = [] := by unfold augIG; rw [h0]; rfl
          rw [e]
          exact reduce_ev (m := []) ⟨by simp, by simp, by simp⟩ (by rw [← e]; exact bytes_augIG hb)
        · have sa : Shape (augIG m) m.length (m.length + m.length) := shape_build _ _ _
          exact reduce_big (bytes_augIG hb) sa (shape_cols sa h0) (by omega) (by omega)
      have hres : (match invG m with | some b => (b, (0 : Int)) | none => ([], 8)) = if (∀ k, k < (reduce (augIG m)).2.length → piv (reduce (augIG m)).2 k = k) then (build m.length m.length fun i j => el (reduce (augIG m)).1 i (m.length + j), (0 : Int)) else ([], 8) := by
        unfold invG
        dsimp only
        by_cases h : ∀ k, k < (reduce (augIG m)).2.length → piv (reduce (augIG m)).2 k = k
        · rw [if_pos h, if_pos h]
        · rw [if_neg h, if_neg h]
      rw [hres]
      refine Ev.sub (g := fun k => (Prt.matrix_reduce.f k (augIG m)).bind fun bt183 => matrix_Inverse.l0 k bt183.2 (bt183.2.length : Int) 0 (m.length : Int) bt183.1) (Ev.bind hred ?_) 100 fun k hk => ?_
      · refine hl.sub 0 fun k _ => ?_
        rw [len_ints]; rfl
      · show matrix_Inverse.f k m = _
        unfold matrix_Inverse.f
        rw [Check_f m hk, Option.bind_some, if_pos hc, columns_f, Option.bind_some, if_pos (by omega), e44, Option.bind_some]
    · rw [if_neg hs]
      refine .val 100 fun k hk => ?_
      show matrix_Inverse.f k m = _
      unfold matrix_Inverse.f
      rw [Check_f m hk, Option.bind_some, if_pos hc, columns_f, Option.bind_some, if_neg (by omega)]
  · rw [if_neg hc]
    refine .val 100 fun k hk => ?_
    show matrix_Inverse.f k m = _
    unfold matrix_Inverse.f
    rw [Check_f m hk, Option.bind_some, if_neg hc]
theorem set_range {α : Type} {n : Nat} {F : Nat → α} {j : Nat} {v : α} : ((List.range n).map F).set j v = (List.range n).map fun b => if b = j then v else F b := by
  apply List.ext_getElem (by simp)
  intro i h1 h2
  simp only [List.getElem_set, List.getElem_map, List.getElem_range]
  by_cases e : j = i
  · subst e; simp
  · rw [if_neg e, if_neg (fun h => e h.symm)]
theorem map_congr_range {α : Type} {n : Nat} {F G : Nat → α} (h : ∀ b, b < n → F b = G b) : (List.range n).map F = (List.range n).map G :=
  List.map_congr_left fun b hb => h b (List.mem_range.1 hb)
theorem replicate_range {α : Type} (n : Nat) (v : α) : List.replicate n v = (List.range n).map fun _ => v := by
  apply List.ext_getElem (by simp); intro i h1 h2; simp
section
variable {R : Grid} {p : List Nat} {n : Nat} {X : List Int} {C : List Int × Grid × Bool}
end
theorem Identity_l0 {n : Nat} (hn : n < 1000) : ∀ d i (x : Grid), i + d = n → x.length = i → Ev (fun k => quietusref05_Identity.l0 k n x i) (x ++ (List.range' i d).map fun i => (List.range n).map fun j => if i = j then 1 else 0)
  | 0, i, x, hi, hx => by
    refine .val 1 fun k hk => ?_
    obtain ⟨k', rfl⟩ : ∃ k', k = k' + 1 := ⟨k - 1, by omega⟩
    show quietusref05_Identity.l0 (k' + 1) _ _ _ = _
    simp only [quietusref05_Identity.l0]
    rw [if_neg (by omega)]; simp
  | d + 1, i, x, hi, hx => by
    have ih := Identity_l0 hn d (i + 1) (x ++ [(List.range n).map fun j => if i = j then 1 else 0]) (by omega) (by simp; omega)
    rw [List.range'_succ, List.map_cons, show ∀ (y : List Int) (z : Grid), x ++ y :: z = (x ++ [y]) ++ z from fun y z => by simp]
    refine ih.of 0 fun k _ => ?_
    simp only [quietusref05_Identity.l0]
    rw [if_pos (by omega), if_pos (by omega), if_pos (by omega), Option.bind_some, List.length_replicate, Int.toNat_natCast, if_pos (by omega), if_pos (by omega), if_pos (by omega), Int.toNat_natCast, wS i (by omega)]
    have : (List.replicate n (0 : Int)).set i 1 = (List.range n).map fun j => if i = j then 1 else 0 := by
      rw [replicate_range, set_range]; exact map_congr_range fun b _ => by
        by_cases e : b = i
        · rw [if_pos e, if_pos e.symm]
        · rw [if_neg e, if_neg (fun h => e h.symm)]
    rw [this]
theorem Identity_ev {n : Nat} (hn : n < 1000) : Ev (fun k => quietusref05_Identity.f k n) (unitG n) := by
  have h := Identity_l0 hn n 0 [] (by omega) rfl
  have e : ([] : Grid) ++ (List.range' 0 n).map (fun i => (List.range n).map fun j => if i = j then (1 : Int) else 0) = unitG n := by
    unfold unitG build; rw [List.range_eq_range']; simp
  rw [e] at h
  exact h
end Go.Proofs.YtijebgceopddmaaDoor.Fn
end
section
set_option linter.unusedVariables false
set_option linter.unusedSimpArgs false
namespace Go.Proofs.YtijebgceopddmaaDoor.Ax
open Go.RowKit
def Parts (P : Program) (R : TypeId → List D → Prop) : List TypeId → List D → Prop
  | [], ds => ds = []
  | t :: ts, ds => P.cellsOf t ≤ ds.length ∧ R t (ds.take (P.cellsOf t)) ∧ Parts P R ts (ds.drop (P.cellsOf t))
def offs (P : Program) : Nat → List Field → Bool
  | _, [] => true
  | o, f :: fs => f.offset == o && offs P (o + P.cellsOf f.type) fs
def cellsAll (P : Program) (ts : List TypeId) : Nat := (ts.map P.cellsOf).sum
def good (P : Program) : Nat → TypeId → Bool
  | 0, _ => false
  | k + 1, t => match P.underlying t with
    | some .bool | some (.int _) | some .string => true
    | some (.slice e) => good P k e && decide (0 < P.cellsOf e)
    | some (.struct fs) => fs.toList.all (fun f => good P k f.type) && offs P 0 fs.toList && P.cellsOf t == cellsAll P (fs.toList.map (·.type))
    | some (.array n e) => good P k e && P.cellsOf t == n * P.cellsOf e
    | _ => false
def Typed (P : Program) : Nat → TypeId → List D → Prop
  | 0, _, _ => False
  | k + 1, t, ds => match P.underlying t with
    | some .bool => ∃ b, ds = [.val (.bool b)]
    | some (.int q) => ∃ m, ds = [.val (.int q m)] ∧ (Lit.int q m).wf = true
    | some .string => ∃ s : ByteArray, ds = [.val (.string s)] ∧ s.size ≤ maxLen
    | some (.slice e) => ∃ xs, ds = [.sl false xs] ∧ ∀ x, x ∈ xs → Typed P k e x.cells ∧ x = (if rowT P e = some true then .agg x.cells else x.cells.headD .any)
    | some (.struct fs) => Parts P (Typed P k) (fs.toList.map (·.type)) ds
    | some (.array n e) => Parts P (Typed P k) (List.replicate n e) ds
    | _ => False
def Reads (W : World) (cs : List Value) (ds : List D) : Prop := ds.length = cs.length ∧ ∀ (j : Nat) u y, cs[j]? = some u → ds[j]? = some y → Rep (fun _ => True) W u y ∧ y.one = true
theorem reads_one {W : World} {u : Value} {y : D} (h : Rep (fun _ => True) W u y) (h1 : y.one = true) : Reads W [u] [y] :=
  ⟨rfl, fun j u' y' hu hy => by
    cases j with
    | zero => simp at hu hy; subst hu hy; exact ⟨h, h1⟩
    | succ j => simp at hu⟩
theorem reads_append {W : World} {c1 c2 : List Value} {d1 d2 : List D} (h1 : Reads W c1 d1) (h2 : Reads W c2 d2) : Reads W (c1 ++ c2) (d1 ++ d2) := by
  refine ⟨by simp [h1.1, h2.1], fun j u y hu hy => ?_⟩
  by_cases hj : j < c1.length
  · rw [List.getElem?_append_left hj] at hu
    rw [List.getElem?_append_left (by rw [h1.1]; exact hj)] at hy
    exact h1.2 j u y hu hy
  · rw [List.getElem?_append_right (by omega)] at hu
    rw [List.getElem?_append_right (by rw [h1.1]; omega), h1.1] at hy
    exact h2.2 _ u y hu hy
theorem parts_of {P : Program} {W : World} {R : TypeId → List D → Prop} : ∀ (ts : List TypeId) (cs : List Value), cs.length = cellsAll P ts →
    (∀ (i : Nat) t, ts[i]? = some t → ∃ ds, Reads W ((cs.drop (cellsAll P (ts.take i))).take (P.cellsOf t)) ds ∧ R t ds) → ∃ ds, Reads W cs ds ∧ Parts P R ts ds
  | [], cs, hl, h => by
    have : cs = [] := List.eq_nil_of_length_eq_zero (by simpa [cellsAll] using hl)
    subst this
    exact ⟨[], ⟨rfl, fun j u y hu => by simp at hu⟩, rfl⟩
  | t :: ts, cs, hl, h => by
    have hl' : cs.length = P.cellsOf t + cellsAll P ts := by simpa [cellsAll] using hl
    obtain ⟨d1, hr1, hR1⟩ := h 0 t rfl
    have e0 : (cs.drop (cellsAll P ((t :: ts).take 0))).take (P.cellsOf t) = cs.take (P.cellsOf t) := by simp [cellsAll]
    rw [e0] at hr1
    obtain ⟨d2, hr2, hR2⟩ := parts_of (P := P) (R := R) ts (cs.drop (P.cellsOf t)) (by simp [hl']) (fun i t' ht' => by
      obtain ⟨ds, k1, k2⟩ := h (i + 1) t' (by simpa using ht')
      refine ⟨ds, ?_, k2⟩
      rw [List.drop_drop]
      have : cellsAll P ((t :: ts).take (i + 1)) = P.cellsOf t + cellsAll P (ts.take i) := by simp [cellsAll]
      rw [this] at k1; exact k1)
    have hd1 : d1.length = P.cellsOf t := by rw [hr1.1]; simp; omega
    refine ⟨d1 ++ d2, ?_, ?_⟩
    · have := reads_append hr1 hr2
      rwa [List.take_append_drop] at this
    · refine ⟨by simp; omega, ?_, ?_⟩
      · rw [List.take_left' hd1]; exact hR1
      · rw [List.drop_left' hd1]; exact hR2
theorem offs_at {P : Program} : ∀ (fs : List Field) (o : Nat), offs P o fs = true → ∀ (i : Nat) f, fs[i]? = some f → f.offset = o + cellsAll P ((fs.map (·.type)).take i)
  | [], o, h, i, f, hf => by simp at hf
  | g :: fs, o, h, i, f, hf => by
    simp only [offs, Bool.and_eq_true, beq_iff_eq] at h
    cases i with
    | zero => simp at hf; subst hf; simp [cellsAll, h.1]
    | succ i =>
      have := offs_at fs _ h.2 i f (by simpa using hf)
      rw [this]
      simp [cellsAll]; omega
theorem typed_head {P : Program} {k : Nat} {t : TypeId} {ds : List D} (h : Typed P k t ds) (hg : good P k t = true) (hr : rowT P t ≠ some true) : ∃ y, ds = [y] ∧ y.cells = [y] := by
  cases k with
  | zero => exact h.elim
  | succ k =>
    simp only [Typed] at h
    split at h
    · obtain ⟨b, rfl⟩ := h; exact ⟨_, rfl, rfl⟩
    · obtain ⟨m, rfl, _⟩ := h; exact ⟨_, rfl, rfl⟩
    · obtain ⟨s, rfl, _⟩ := h; exact ⟨_, rfl, rfl⟩
    · obtain ⟨xs, rfl, _⟩ := h; exact ⟨_, rfl, rfl⟩
    · rename_i fs hu; exact absurd (by simp [rowT, hu]) hr
    · rename_i n e hu; exact absurd (by simp [rowT, hu]) hr
    · exact h.elim
theorem cells_get {W : World} {base n : Nat} {a : Addr} {cs : List Value} (h : W.cells? base a n = some cs) : cs.length = n ∧ ∀ (j : Nat), j < n → W.cell? (a.add j) = cs[j]? := by
  unfold World.cells? at h
  split at h
  · refine ⟨by simpa using mapM_some_length h, fun j hj => ?_⟩
    exact mapM_some_get h j j (by simp [hj])
  · cases h
theorem trod_typed {H : Type} {enc : TypeId × Value → H} {P : Program} {W : World} {base : Nat} {spare : Nat → Bool} {held : Bool} : ∀ (k n : Nat) (t : TypeId) (cs : List Value) (x : DataW H × List MemPlace), good P k t = true → DataW.trod enc P W base spare held n t cs = some x → ∃ ds, Reads W cs ds ∧ Typed P k t ds
  | 0, n, t, cs, x, hg, h => by simp [good] at hg
  | k + 1, 0, t, cs, x, hg, h => by simp [DataW.trod] at h
  | k + 1, n + 1, t, cs, x, hg, h => by
    have ih := trod_typed (enc := enc) (P := P) (W := W) (base := base) (spare := spare) (held := held) k n
    simp only [good] at hg
    split at hg
    · rename_i hu
      unfold DataW.trod at h
      rw [hu] at h
      split at h <;> simp_all
      rename_i b
      exact ⟨[.val (.bool b)], reads_one (.val _ rfl) rfl, by simp [Typed, hu]⟩
    · rename_i q hu
      unfold DataW.trod at h
      rw [hu] at h
      split at h <;> simp_all
      rename_i k1 k2 m heq
      exact ⟨[.val (.int k1 m)], reads_one (.val _ rfl) rfl, by simp [Typed, hu]; exact h.1.2⟩
    · rename_i hu
      unfold DataW.trod at h
      rw [hu] at h
      split at h <;> simp_all
      rename_i s
      exact ⟨[.val (.string s)], reads_one (.val _ rfl) rfl, by simp [Typed, hu]; exact h.1⟩
    · rename_i e hu
      simp only [Bool.and_eq_true, decide_eq_true_eq] at hg
      obtain ⟨hg1, hg2⟩ := hg
      unfold DataW.trod at h
      rw [hu] at h
      split at h <;> simp_all
      · rename_i e' heq
        exact ⟨[.sl false []], reads_one (Rep.sl false none 0 0 [] ⟨0, 0, none⟩ (by simp) (by simp) (by simp) (by simp) (by simp) (by simp) (by simp)) rfl, by simp [Typed, hu]⟩
      · rename_i e' a len cap heq
        obtain ⟨⟨hb, hle, hcm⟩, h⟩ := h
        obtain ⟨elems, hel, _⟩ := Option.bind_eq_some_iff.1 h
        have each : ∀ i, i < len → ∃ x : D, x.cells.length = P.cellsOf e' ∧ Typed P k e' x.cells ∧ x = (if rowT P e' = some true then .agg x.cells else x.cells.headD .any) ∧ ∀ (j : Nat) y, x.cells[j]? = some y → ∃ u, W.cell? (a.add (i * P.cellsOf e' + j)) = some u ∧ Rep (fun _ => True) W u y := fun i hi => by
          have hget := mapM_some_get hel i i (by simp [hi])
          have hlen := mapM_some_length hel
          have hil : i < elems.length := by rw [hlen]; simpa using hi
          rw [List.getElem?_eq_getElem hil] at hget
          obtain ⟨c, hc, hct⟩ := Option.bind_eq_some_iff.1 hget
          obtain ⟨hcl, hcell⟩ := cells_get hc
          obtain ⟨ds, hr, ht⟩ := ih e' c elems[i].1 elems[i].2 hg1 hct
          have hcells : ∀ (x : D), x.cells = ds → ∀ (j : Nat) y, x.cells[j]? = some y → ∃ u, W.cell? (a.add (i * P.cellsOf e' + j)) = some u ∧ Rep (fun _ => True) W u y := fun x hx j y hy => by
            rw [hx] at hy
            have hj : j < c.length := by rw [← hr.1]; exact (List.getElem?_eq_some_iff.1 hy).1
            refine ⟨c[j], ?_, (hr.2 j _ y (List.getElem?_eq_getElem hj) hy).1⟩
            rw [← add_add, hcell j (by omega), List.getElem?_eq_getElem hj]
          by_cases hrow : rowT P e' = some true
          · exact ⟨.agg ds, by show ds.length = _; rw [hr.1, hcl], ht, by rw [if_pos hrow]; rfl, hcells _ rfl⟩
          · obtain ⟨y, rfl, hy⟩ := typed_head ht hg1 hrow
            exact ⟨y, by rw [hy, hr.1, hcl], by rw [hy]; exact ht, by rw [if_neg hrow, hy]; rfl, hcells _ hy⟩
        obtain ⟨f, hf⟩ : ∃ f : Nat → D, ∀ i, i < len → (f i).cells.length = P.cellsOf e' ∧ Typed P k e' (f i).cells ∧ f i = (if rowT P e' = some true then .agg (f i).cells else (f i).cells.headD .any) ∧ ∀ (j : Nat) y, (f i).cells[j]? = some y → ∃ u, W.cell? (a.add (i * P.cellsOf e' + j)) = some u ∧ Rep (fun _ => True) W u y :=
          ⟨fun i => open Classical in if h : i < len then Classical.choose (each i h) else .any, fun i hi => by simp only [dif_pos hi]; exact Classical.choose_spec (each i hi)⟩
        have hget : ∀ (i : Nat) x, ((List.range len).map f)[i]? = some x → i < len ∧ x = f i := fun i x hx => by
          simp only [List.getElem?_map, Option.map_eq_some_iff] at hx
          obtain ⟨i', hi', rfl⟩ := hx
          obtain ⟨h1, h2⟩ := List.getElem?_eq_some_iff.1 hi'
          simp at h1 h2
          subst h2; exact ⟨h1, rfl⟩
        have hsl := Rep.sl (ok := fun _ => True) (W := W) false (some a) cap (P.cellsOf e') ((List.range len).map f) a (by simpa using hle) (by simp; unfold maxLen at hcm; omega) (by simp) (by simp) (fun i x hx => by
            obtain ⟨hi, rfl⟩ := hget i x hx; exact (hf i hi).1) (fun i j x y hx hy => by
            obtain ⟨hi, rfl⟩ := hget i x hx
            obtain ⟨u, hu', _⟩ := (hf i hi).2.2.2 j y hy
            exact ⟨trivial, by rw [hu']; rfl⟩) (fun i j x y u hx hy hu' => by
            obtain ⟨hi, rfl⟩ := hget i x hx
            obtain ⟨u', hu2, hr⟩ := (hf i hi).2.2.2 j y hy
            rw [hu2] at hu'; injection hu' with hu'; subst hu'; exact hr)
        simp only [List.length_map, List.length_range] at hsl
        refine ⟨[.sl false ((List.range len).map f)], reads_one hsl rfl, ?_⟩
        simp only [Typed, hu]
        refine ⟨_, rfl, fun x hx => ?_⟩
        obtain ⟨i, hi, rfl⟩ := List.mem_map.1 hx
        have := hf i (by simpa using hi)
        exact ⟨this.2.1, this.2.2.1⟩
    · rename_i fs' hu
      simp only [Bool.and_eq_true, beq_iff_eq, List.all_eq_true] at hg
      obtain ⟨⟨hg1, hg2⟩, hg3⟩ := hg
      simp only [DataW.trod, hu] at h
      split at h
      case isFalse => cases h
      rename_i hl
      obtain ⟨xs, hxs, _⟩ := Option.map_eq_some_iff.1 h
      rw [hg3] at hl
      have hp := parts_of (P := P) (W := W) (R := Typed P k) (fs'.toList.map (·.type)) cs hl (fun i t' ht' => by
        simp only [List.getElem?_map, Option.map_eq_some_iff] at ht'
        obtain ⟨fd, hfd, rfl⟩ := ht'
        have hget := mapM_some_get hxs i fd hfd
        have hlen := mapM_some_length hxs
        have hil : i < xs.length := by rw [hlen]; exact (List.getElem?_eq_some_iff.1 hfd).1
        rw [List.getElem?_eq_getElem hil] at hget
        have hoff := offs_at _ _ hg2 i fd hfd
        rw [Nat.zero_add] at hoff
        rw [hoff] at hget
        exact ih fd.type _ xs[i] (hg1 fd (by simpa using List.mem_of_getElem? hfd)) hget)
      obtain ⟨ds, h1, h2⟩ := hp
      exact ⟨ds, h1, by simp only [Typed, hu]; exact h2⟩
    · rename_i m e hu
      simp only [Bool.and_eq_true, beq_iff_eq] at hg
      simp only [DataW.trod, hu] at h
      split at h
      case isFalse => cases h
      rename_i hl
      obtain ⟨xs, hxs, _⟩ := Option.map_eq_some_iff.1 h
      rw [hg.2] at hl
      have hp := parts_of (P := P) (W := W) (R := Typed P k) (List.replicate m e) cs (by rw [hl]; simp [cellsAll]) (fun i t' ht' => by
        rw [List.getElem?_replicate] at ht'
        split at ht'
        · rename_i hi
          injection ht' with ht'; subst ht'
          have hget := mapM_some_get hxs i i (by simp [hi])
          have hlen := mapM_some_length hxs
          have hil : i < xs.length := by rw [hlen]; simpa using hi
          rw [List.getElem?_eq_getElem hil] at hget
          have e1 : cellsAll P ((List.replicate m e).take i) = i * P.cellsOf e := by
            rw [List.take_replicate, Nat.min_eq_left (by omega)]; simp [cellsAll]
          rw [e1]
          exact ih e _ xs[i] hg.1 hget
        · cases ht')
      obtain ⟨ds, h1, h2⟩ := hp
      exact ⟨ds, h1, by simp only [Typed, hu]; exact h2⟩
    · cases hg
end Go.Proofs.YtijebgceopddmaaDoor.Ax
end
section
set_option linter.unusedVariables false
set_option linter.unusedSimpArgs false
namespace Go.Proofs.YtijebgceopddmaaDoor.Ax
open Go.RowKit Go.ChangeShapes Go.WideShapes Go.ChangeAt Go.Proofs.YtijebgceopddmaaDoor.Gf
theorem Spec.run {P : Program} {Γ : World → Prop} {f : FuncId} {ds : List D} {r : T} (h : Spec P Γ f (ds.map T.d) r) {W : World} (hG : Γ W) (vs : List Value) (hl : vs.length = ds.length) (hargs : ∀ (i : Nat) v x, vs[i]? = some v → ds[i]? = some x → Rep (fun _ => True) W v x) :
    Calls P f vs.toArray W fun e W' => ∃ v, e = .returned v ∧ RepR (fun _ => True) W' v r ∧ Below W.heap.size W W' := by
  obtain ⟨_, ds', h2, h3⟩ := h
  have hid : ∀ l : List D, (l.map T.d).map toD = l := fun l => by rw [List.map_map]; exact List.map_id l
  have e : ds' = ds := by
    have := congrArg (List.map toD) h2
    rw [hid, hid] at this
    exact this.symm
  subst e
  refine (h3 (fun _ => True) W vs hG hl hargs).mono fun e W' hh => ?_
  obtain ⟨v, rfl, hv, hb⟩ := hh
  refine ⟨v, rfl, ?_, hb⟩
  cases r with
  | d x => exact Rep.mono (fun k _ _ => trivial) hv
  | tup ts => obtain ⟨vs', k1, k2, k3⟩ := hv; exact ⟨vs', k1, k2, fun i u y hu hy => (k3 i u y hu hy).mono fun k _ _ => trivial⟩
  | ptr i off => exact hv.elim
  | eptr x => exact hv.elim
def BytesL (xs : List Int) : Prop := ∀ n, n ∈ xs → 0 ≤ n ∧ n < 256
def BytesG (m : List (List Int)) : Prop := ∀ r, r ∈ m → BytesL r
theorem wf_u8 {n : Int} (h : (Lit.int .u8 n).wf = true) : 0 ≤ n ∧ n < 256 := by
  simp only [Lit.wf, Bool.and_eq_true, decide_eq_true_eq] at h
  have h1 : IntKind.u8.min = 0 := rfl
  have h2 : IntKind.u8.max = 255 := rfl
  omega
section
variable {P : Program} {k : Nat}
theorem typed_row {t e : TypeId} (ht : P.underlying t = some (.slice e)) (he : P.underlying e = some (.int .u8)) {ds : List D} (h : Typed P (k + 2) t ds) : ∃ xs, ds = [rowD .u8 xs] ∧ BytesL xs := by
  simp only [Typed, ht, he] at h
  obtain ⟨ys, rfl, hy⟩ := h
  have hall : ∀ y, y ∈ ys → ∃ n, y = iD .u8 n ∧ 0 ≤ n ∧ n < 256 := fun y hm => by
    obtain ⟨⟨n, hn, hw⟩, he'⟩ := hy y hm
    refine ⟨n, ?_, wf_u8 hw⟩
    rw [if_neg (by simp [rowT, he]), hn] at he'
    exact he'
  have : ∀ ys : List D, (∀ y, y ∈ ys → ∃ n, y = iD .u8 n ∧ 0 ≤ n ∧ n < 256) → ∃ xs : List Int, ys = xs.map (iD .u8) ∧ BytesL xs := fun ys => by
    induction ys with
    | nil => intro _; exact ⟨[], rfl, fun n hn => by simp at hn⟩
    | cons y ys ih =>
      intro hh
      obtain ⟨n, rfl, hn⟩ := hh y (by simp)
      obtain ⟨xs, rfl, hx⟩ := ih fun z hz => hh z (by simp [hz])
      exact ⟨n :: xs, rfl, fun q hq => by
        rcases List.mem_cons.1 hq with rfl | hq
        · exact hn
        · exact hx q hq⟩
  obtain ⟨xs, rfl, hb⟩ := this ys hall
  exact ⟨xs, rfl, hb⟩
theorem typed_grid {t e q : TypeId} (ht : P.underlying t = some (.slice e)) (he : P.underlying e = some (.slice q)) (hq : P.underlying q = some (.int .u8)) {ds : List D} (h : Typed P (k + 3) t ds) : ∃ m, ds = [gridD .u8 m] ∧ BytesG m := by
  have h' : ∃ xs, ds = [.sl false xs] ∧ ∀ x, x ∈ xs → Typed P (k + 2) e x.cells ∧ x = (if rowT P e = some true then .agg x.cells else x.cells.headD .any) := by
    rw [Typed] at h
    simp only [ht] at h
    exact h
  obtain ⟨ys, rfl, hy⟩ := h'
  have hall : ∀ y, y ∈ ys → ∃ r, y = rowD .u8 r ∧ BytesL r := fun y hm => by
    obtain ⟨h1, h2⟩ := hy y hm
    obtain ⟨r, hr, hb⟩ := typed_row he hq h1
    refine ⟨r, ?_, hb⟩
    rw [if_neg (by simp [rowT, he]), hr] at h2
    exact h2
  have : ∀ ys : List D, (∀ y, y ∈ ys → ∃ r, y = rowD .u8 r ∧ BytesL r) → ∃ m : List (List Int), ys = m.map (rowD .u8) ∧ BytesG m := fun ys => by
    induction ys with
    | nil => intro _; exact ⟨[], rfl, fun n hn => by simp at hn⟩
    | cons y ys ih =>
      intro hh
      obtain ⟨r, rfl, hr⟩ := hh y (by simp)
      obtain ⟨m, rfl, hm⟩ := ih fun z hz => hh z (by simp [hz])
      exact ⟨r :: m, rfl, fun q hq => by
        rcases List.mem_cons.1 hq with rfl | hq
        · exact hr
        · exact hm q hq⟩
  obtain ⟨m, rfl, hb⟩ := this ys hall
  exact ⟨m, rfl, hb⟩
end
theorem own : ownKnob Tryd.prog.godebug = none := by kernel_rfl
theorem laidOut : laidOutB Tryd.prog = true := by kernel_rfl
theorem gHigh : Tryd.prog.globalNamed "quietus/gf.high" = some 0 := by kernel_rfl
abbrev laid : List (String × DataW Unit) := [("quietus/gf.high", Rows.laid_quietus_gf_high)]
theorem door_met (os : Os) (args : Array Value) : laidMetH Tryd.prog laid ((World.doorLaid Tryd.prog 400 os).forCall (fun _ _ => 0) ⟨#[], args, []⟩).memory :=
  laidMetH_of_parts3 (fuel := 8) (laidMet_of_run' 8 (by kernel_rfl) (by kernel_rfl)) (by kernel_rfl) (by kernel_rfl)
theorem tHigh : (Tryd.prog.globals[0]?).map (·.type) = some 87 := by kernel_rfl
theorem of_laid {W : World} (h : laidMetH Tryd.prog laid W) : HighIn W := by
  rw [MakeChecks.laidMetH_plain _ _ _ (by kernel_rfl)] at h
  obtain ⟨ps, ⟨g0, t0, cs0, f0, p0, q0, hg0, ht0, hv0, hd0, _⟩, _⟩ := h
  obtain rfl := Option.some.inj (gHigh.symm.trans hg0)
  obtain rfl := Option.some.inj (tHigh.symm.trans ht0)
  obtain ⟨xs, m1, rfl, hx1, hlen, hn3, hel⟩ := DataW.trod_array Tryd.underlying87 hd0
  have c5 : Tryd.prog.cellsOf 5 = 1 := by kernel_rfl
  simp only [Prod.mk.injEq] at hx1
  have hxs : xs.map (·.1) = (highL.map fun n => (DataW.lit (Lit.int .u8 n) : DataW Unit)) := by
    have := hx1.1
    simp only [Rows.laid_quietus_gf_high, DataW.agg.injEq] at this
    exact this.symm
  intro j hj
  have h1 := hel j hj
  rw [c5, Nat.mul_one] at h1
  have hjx : j < xs.length := by omega
  rw [List.getElem?_eq_getElem hjx] at h1
  obtain ⟨k, e1, e2, _⟩ := DataW.trod_int Tryd.underlying5 h1
  have h3 : (xs.map (·.1))[j]? = some (DataW.lit (Lit.int .u8 k)) := by
    rw [List.getElem?_map, List.getElem?_eq_getElem hjx, e2]; rfl
  rw [hxs, List.getElem?_map] at h3
  have hjl : j < highL.length := hj
  rw [List.getElem?_eq_getElem hjl] at h3
  simp only [Option.map_some, Option.some.injEq, DataW.lit.injEq, Lit.int.injEq] at h3
  have hk : k = highL.getD j 0 := by rw [List.getD_eq_getElem?_getD, List.getElem?_eq_getElem hjl]; exact h3.2.symm
  rw [World.var?_cell hg0 hv0 j, ← hk]
  have h4 : ((cs0.toList.drop j).take 1)[0]? = some (.int .u8 k) := by rw [e1]; rfl
  simpa using h4
end Go.Proofs.YtijebgceopddmaaDoor.Ax
end
section
set_option linter.unusedVariables false
set_option linter.unusedSimpArgs false
namespace Go.Proofs.YtijebgceopddmaaDoor.Ax
open Go.RowKit Go.Proofs.YtijebgceopddmaaDoorW.PrintWords Go.Proofs.YtijebgceopddmaaDoor.Gf Go.Proofs.YtijebgceopddmaaDoor.Pa Go.Proofs.YtijebgceopddmaaDoor.Fn QMat
section
variable {k : IntKind} {x y : Int}
theorem neqT (h : x ≠ y) : intOp .neq k x y = some (.bool true) := by simp [intOp, h]
theorem neqF (h : x = y) : intOp .neq k x y = some (.bool false) := by simp [intOp, h]
theorem eqlT (h : x = y) : intOp .eql k x y = some (.bool true) := by simp [intOp, h]
theorem eqlF (h : x ≠ y) : intOp .eql k x y = some (.bool false) := by simp [intOp, h]
end
theorem byteL_of {r : List Int} (h : BytesL r) : ByteL r := fun j => by
  by_cases hj : j < r.length
  · rw [List.getD_eq_getElem?_getD, List.getElem?_eq_getElem hj]; exact h _ (List.getElem_mem hj)
  · rw [List.getD_eq_getElem?_getD, List.getElem?_eq_none (by omega)]; exact byte_zero
theorem bytes_of {m : List (List Int)} (h : BytesG m) : Bytes m := fun i j => by
  have hr : BytesL (m.getD i []) := by
    by_cases hi : i < m.length
    · have e : m.getD i [] = m[i] := by rw [List.getD_eq_getElem?_getD, List.getElem?_eq_getElem hi]; rfl
      rw [e]; exact h _ (List.getElem_mem hi)
    · have e : m.getD i [] = [] := by rw [List.getD_eq_getElem?_getD, List.getElem?_eq_none (by omega)]; rfl
      rw [e]; intro n hn; simp at hn
  exact byteL_of hr j
def prE (a b : Grid) : Grid × Int := if prodE a b = 0 then (if cols a = b.length then (prodG a b, 0) else ([], 1)) else ([], prodE a b)
theorem prE_of {a b : Grid} (va : Valid a) (vb : Valid b) (h : cols a = b.length) : prE a b = (prodG a b, 0) := by
  unfold prE prodE
  rw [chk_zero.2 va, if_pos rfl, chk_zero.2 vb, if_pos rfl, if_pos h]
theorem valid_of {m : Grid} {h w : Nat} (s : Shape m h w) (hp : 0 < h) (hh : h ≤ 48) (hw : w ≤ 48) : Valid m := by
  have hl : m.length = h := s.rows
  have hc := shape_cols s hp
  have hrow : ∀ r, r ∈ m → r.length = w := fun r hr => by
    obtain ⟨i, hi, rfl⟩ := List.getElem_of_mem hr
    have := s.cols i (by omega)
    rw [List.getD_eq_getElem?_getD, List.getElem?_eq_getElem hi] at this
    exact this
  exact ⟨by omega, fun r hr => by rw [hrow r hr]; exact hw, fun r hr => by rw [hrow r hr, hc]⟩
theorem same_self {a b : Grid} (h : a = b) (va : Valid a) : quietusref05_Same.f 200 a b = some true := by
  rw [Same_f (K := 49) (by omega) (fun r hr => by have := va.2.1 r hr; omega) (by have := va.1; omega) (by omega), decide_eq_true h]
theorem ev_get {α : Type} {f : Nat → Option α} {r : α} (h : Fn.Ev f r) : ∃ k, f k = some r := by obtain ⟨K, hK⟩ := h; exact ⟨K, hK K (Nat.le_refl _)⟩
theorem gnil {m : Grid} (h : m.length = 0) : m = [] := List.eq_nil_of_length_eq_zero h
theorem valid_sq {m : Grid} {n : Nat} (s : Shape m n n) (hn : n ≤ 48) : Valid m := by
  rcases Nat.eq_zero_or_pos n with h | h
  · rw [gnil (m := m) (by rw [s.rows]; exact h)]; exact ⟨by simp, by simp, by simp⟩
  · exact valid_of s h hn hn
theorem cols_sq {m : Grid} {n : Nat} (s : Shape m n n) : cols m = n := by
  rcases Nat.eq_zero_or_pos n with h | h
  · rw [gnil (m := m) (by rw [s.rows]; exact h), h]; rfl
  · exact shape_cols s h
theorem shape_prod_sq {a b : Grid} {n : Nat} (sa : Shape a n n) (sb : Shape b n n) : Shape (prodG a b) n n := by
  rcases Nat.eq_zero_or_pos n with h | h
  · subst h
    have := gnil sa.rows; subst this
    exact ⟨by simp [prodG, build], fun i hi => by omega⟩
  · exact shape_prodG sa sb h
end Go.Proofs.YtijebgceopddmaaDoor.Ax
end
section
set_option linter.unusedVariables false
set_option linter.unusedSimpArgs false
namespace Go.Proofs.YtijebgceopddmaaDoor.Ax
open Go.RowKit Go.Proofs.YtijebgceopddmaaDoorW.PrintWords Go.Proofs.YtijebgceopddmaaDoor.Gf Go.Proofs.YtijebgceopddmaaDoor.Pa Go.Proofs.YtijebgceopddmaaDoor.Fn QMat
theorem prod_sq {a b : Grid} {n : Nat} (sa : Shape a n n) (sb : Shape b n n) (hn : n ≤ 48) (ha : Bytes a) (hb : Bytes b) : matrix_Product.f 3000 a b = some (prodG a b, 0) := by
  rw [Product_f ha hb (by omega)]
  exact congrArg some (prE_of (valid_sq sa hn) (valid_sq sb hn) (by rw [cols_sq sa, sb.rows]))
theorem inv_both {a b : Grid} {n : Nat} (sa : Shape a n n) (sb : Shape b n n) (ha : Bytes a) (hb : Bytes b) (hr : rankG a = n) : (∃ c, invG (prodG a b) = some c) ↔ ∃ c, invG b = some c := by
  rw [inv_iff (shape_prod_sq sa sb) (bytes_prodG ha hb), inv_iff sb hb]
  rcases Nat.eq_zero_or_pos n with h | h
  · have h1 := (rank_le sb hb).1
    have h2 := (rank_le (shape_prod_sq sa sb) (bytes_prodG ha hb)).1
    exact ⟨fun _ => by omega, fun _ => by omega⟩
  · exact prod_rank_full sa sb h ha hb hr
theorem law_MatrixInverts (a b : List (List Int)) (ha : BytesG a) (hb : BytesG b) : Spec Tryd.prog HighIn 7 ([gridD .u8 a, gridD .u8 b].map T.d) (.d (.val (.bool true))) := by
  have Ba := bytes_of ha
  have Bb := bytes_of hb
  have Fa : quietusref05_Few.f 1002 a 16 = some (fits a 16) := Few_f (n := 16) (by omega) (by omega)
  have Fb : quietusref05_Few.f 1002 b 16 = some (fits b 16) := Few_f (n := 16) (by omega) (by omega)
  have Ca := Check2_f a (Nat.le_refl 200)
  have Cb := Check2_f b (Nat.le_refl 200)
  cases fa : fits a 16 with
  | false => exact p7_1 a b (fa ▸ Fa)
  | true =>
  rw [fa] at Fa
  by_cases c1 : chk a = 0
  case neg => exact p7_2 a b Fa Ca (neqT c1)
  by_cases c2 : cols a = a.length
  case neg => exact p7_3 a b Fa Ca (neqF c1) (Columns_f a) (neqT (by omega))
  have va := chk_zero.1 c1
  have hn := va.1
  obtain ⟨n, en⟩ : ∃ n, n = a.length := ⟨_, rfl⟩
  have sa : Shape a n n := by have := va.shape; rw [c2] at this; rw [en]; exact this
  obtain ⟨k1, I1⟩ := ev_get (Inverse_ev Ba)
  obtain ⟨k2, R1⟩ := ev_get (Rank_valid va Ba)
  unfold invE at I1
  rw [if_pos c1, if_pos c2] at I1
  cases ia : invG a with
  | none =>
    rw [ia] at I1
    have hr := inv_none sa Ba ia
    exact p7_4 a b Fa Ca (neqF c1) (Columns_f a) (neqF (by omega)) I1 R1 (neqF rfl) (neqT (by omega)) (neqF rfl) (eqlF (by omega)) (eqlF (by omega)) (neqT (by omega)) (eqlT rfl)
  | some x =>
  rw [ia] at I1
  obtain ⟨sx, Bx, hr, hl, hri⟩ := inv_some sa Ba ia
  obtain ⟨k3, E1⟩ := ev_get (Identity_ev (n := n) (by omega))
  rw [en] at E1
  have P1 := prod_sq sx sa (by omega) Bx Ba
  have P2 := prod_sq sa sx (by omega) Ba Bx
  have u1 : prodG x a = unitG a.length := by rw [← en]; exact prod_unit sx sa Bx Ba hl
  have u2 : prodG a x = unitG a.length := by rw [← en]; exact prod_unit sa sx Ba Bx hri
  have v1 := valid_sq (shape_prod_sq sx sa) (show n ≤ 48 by omega)
  have v2 := valid_sq (shape_prod_sq sa sx) (show n ≤ 48 by omega)
  have S1 := same_self u1 v1
  have S2 := same_self u2 v2
  have dr : intOp .eql .i64 (rankG a : Int) ((a.length : Nat)) = some (.bool true) := eqlT (by omega)
  cases fb : fits b 16 with
  | false => exact p7_5 a b Fa Ca (neqF c1) (Columns_f a) (neqF (by omega)) I1 R1 (neqF rfl) (neqF rfl) (eqlT rfl) dr (neqF rfl) E1 P1 P2 (neqF rfl) (neqF rfl) S1 S2 (fb ▸ Fb)
  | true =>
  rw [fb] at Fb
  by_cases c3 : chk b = 0
  case neg => exact p7_6 a b Fa Ca (neqF c1) (Columns_f a) (neqF (by omega)) I1 R1 (neqF rfl) (neqF rfl) (eqlT rfl) dr (neqF rfl) E1 P1 P2 (neqF rfl) (neqF rfl) S1 S2 Fb Cb (neqT c3)
  by_cases c4 : b.length = a.length
  case neg => exact p7_7 a b Fa Ca (neqF c1) (Columns_f a) (neqF (by omega)) I1 R1 (neqF rfl) (neqF rfl) (eqlT rfl) dr (neqF rfl) E1 P1 P2 (neqF rfl) (neqF rfl) S1 S2 Fb Cb (neqF c3) (neqT (by omega))
  by_cases c5 : cols b = a.length
  case neg => exact p7_8 a b Fa Ca (neqF c1) (Columns_f a) (neqF (by omega)) I1 R1 (neqF rfl) (neqF rfl) (eqlT rfl) dr (neqF rfl) E1 P1 P2 (neqF rfl) (neqF rfl) S1 S2 Fb Cb (neqF c3) (neqF (by omega)) (Columns_f b) (neqT (by omega))
  have vb := chk_zero.1 c3
  have sb : Shape b n n := by have := vb.shape; rw [c5, c4] at this; rw [en]; exact this
  have P3 := prod_sq sa sb (by omega) Ba Bb
  have sab := shape_prod_sq sa sb
  have vab := valid_sq sab (show n ≤ 48 by omega)
  have Bab := bytes_prodG Ba Bb
  obtain ⟨k4, I2⟩ := ev_get (Inverse_ev Bb)
  obtain ⟨k5, I3⟩ := ev_get (Inverse_ev Bab)
  unfold invE at I2 I3
  rw [if_pos c3, if_pos (by omega)] at I2
  rw [if_pos (chk_zero.2 vab), if_pos (by rw [cols_sq sab, sab.rows])] at I3
  have hiff := inv_both sa sb Ba Bb hr
  cases ib : invG b with
  | none =>
    have iab : invG (prodG a b) = none := by
      cases h : invG (prodG a b) with
      | none => rfl
      | some c => obtain ⟨c', hc'⟩ := hiff.1 ⟨c, h⟩; rw [ib] at hc'; cases hc'
    rw [ib] at I2
    rw [iab] at I3
    exact p7_9 a b Fa Ca (neqF c1) (Columns_f a) (neqF (by omega)) I1 R1 (neqF rfl) (neqF rfl) (eqlT rfl) dr (neqF rfl) E1 P1 P2 (neqF rfl) (neqF rfl) S1 S2 Fb Cb (neqF c3) (neqF (by omega)) (Columns_f b) (neqF (by omega)) P3 I2 I3 (neqF rfl) (eqlF (by omega)) (eqlF (by omega)) (neqT (by omega))
  | some y =>
    obtain ⟨c, iab⟩ := hiff.2 ⟨y, ib⟩
    rw [ib] at I2
    rw [iab] at I3
    obtain ⟨sy, By, _⟩ := inv_some sb Bb ib
    obtain ⟨sc, Bc, _⟩ := inv_some sab Bab iab
    have hc : c = prodG y x := by
      rcases Nat.eq_zero_or_pos n with h | h
      · rw [gnil (m := c) (by rw [sc.rows, h]), gnil (m := prodG y x) (by rw [(shape_prod_sq sy sx).rows, h])]
      · exact inv_prod sa sb h Ba Bb ia ib iab
    have P4 := prod_sq sy sx (by omega) By Bx
    have S3 := same_self hc (valid_sq sc (show n ≤ 48 by omega))
    exact p7_10 a b Fa Ca (neqF c1) (Columns_f a) (neqF (by omega)) I1 R1 (neqF rfl) (neqF rfl) (eqlT rfl) dr (neqF rfl) E1 P1 P2 (neqF rfl) (neqF rfl) S1 S2 Fb Cb (neqF c3) (neqF (by omega)) (Columns_f b) (neqF (by omega)) P3 I2 I3 (neqF rfl) (eqlT rfl) (eqlT rfl) (neqF rfl) P4 (eqlT rfl) S3
end Go.Proofs.YtijebgceopddmaaDoor.Ax
end
