/- Parts of the proof, laid together by a program of this session: AxArg, AxLaw, LawB, Law6. -/
import Derived.Test.YtijebgceopddmaaDoorKs0
import Derived.DataReads
import GoSem.ClaimChange
import Derived.Test.YtijebgceopddmaaDoorKs1
import Derived.Test.YtijebgceopddmaaDoorRows
import Derived.ProofKit
import Derived.LaidMore
import Derived.OpenShut
import Derived.Stop.Joined
import Derived.Test.YtijebgceopddmaaDoorKs4
set_option linter.unusedVariables false
set_option linter.unusedSimpArgs false
section
set_option linter.unusedVariables false
set_option linter.unusedSimpArgs false
namespace Go.Proofs.YtijebgceopddmaaDoor.Ax
open Go.RowKit
def Parts (P : Program) (R : TypeId → List D → Prop) : List TypeId → List D → Prop
 | [], ds => ds = []
 | t :: ts, ds => P.cellsOf t ≤ ds.length ∧ R t (ds.take (P.cellsOf t)) ∧ Parts P R ts (ds.drop (P.cellsOf t))
def offs (P : Program) : Nat → List Field → Bool
 | _, [] => true
 | o, f :: fs => f.offset == o && offs P (o + P.cellsOf f.type) fs
def cellsAll (P : Program) (ts : List TypeId) : Nat := (ts.map P.cellsOf).sum
def good (P : Program) : Nat → TypeId → Bool
 | 0, _ => false
 | k + 1, t => match P.underlying t with
  | some .bool | some (.int _) | some .string => true
  | some (.slice e) => good P k e && decide (0 < P.cellsOf e)
  | some (.struct fs) => fs.toList.all (fun f => good P k f.type) && offs P 0 fs.toList && P.cellsOf t == cellsAll P (fs.toList.map (·.type))
  | some (.array n e) => good P k e && P.cellsOf t == n * P.cellsOf e
  | _ => false
def Typed (P : Program) : Nat → TypeId → List D → Prop
 | 0, _, _ => False
 | k + 1, t, ds => match P.underlying t with
  | some .bool => ∃ b, ds = [.val (.bool b)]
  | some (.int q) => ∃ m, ds = [.val (.int q m)] ∧ (Lit.int q m).wf = true
  | some .string => ∃ s : ByteArray, ds = [.val (.string s)] ∧ s.size ≤ maxLen
  | some (.slice e) => ∃ xs, ds = [.sl false xs] ∧ ∀ x, x ∈ xs → Typed P k e x.cells ∧ x = (if rowT P e = some true then .agg x.cells else x.cells.headD .any)
  | some (.struct fs) => Parts P (Typed P k) (fs.toList.map (·.type)) ds
  | some (.array n e) => Parts P (Typed P k) (List.replicate n e) ds
  | _ => False
def Reads (W : World) (cs : List Value) (ds : List D) : Prop := ds.length = cs.length ∧ ∀ (j : Nat) u y, cs[j]? = some u → ds[j]? = some y → Rep (fun _ => True) W u y ∧ y.one = true
theorem reads_one {W : World} {u : Value} {y : D} (h : Rep (fun _ => True) W u y) (h1 : y.one = true) : Reads W [u] [y] :=
 ⟨rfl, fun j u' y' hu hy => by
  cases j with
  | zero => simp at hu hy; subst hu hy; exact ⟨h, h1⟩
  | succ j => simp at hu⟩
theorem reads_append {W : World} {c1 c2 : List Value} {d1 d2 : List D} (h1 : Reads W c1 d1) (h2 : Reads W c2 d2) : Reads W (c1 ++ c2) (d1 ++ d2) := by
 refine ⟨by simp [h1.1, h2.1], fun j u y hu hy => ?_⟩
 by_cases hj : j < c1.length
 ·rw [List.getElem?_append_left hj] at hu
  rw [List.getElem?_append_left (by rw [h1.1]; exact hj)] at hy
  exact h1.2 j u y hu hy
 ·rw [List.getElem?_append_right (by omega)] at hu
  rw [List.getElem?_append_right (by rw [h1.1]; omega), h1.1] at hy
  exact h2.2 _ u y hu hy
theorem parts_of {P : Program} {W : World} {R : TypeId → List D → Prop} : ∀ (ts : List TypeId) (cs : List Value), cs.length = cellsAll P ts →
  (∀ (i : Nat) t, ts[i]? = some t → ∃ ds, Reads W ((cs.drop (cellsAll P (ts.take i))).take (P.cellsOf t)) ds ∧ R t ds) → ∃ ds, Reads W cs ds ∧ Parts P R ts ds
 | [], cs, hl, h => by
  have : cs = [] := List.eq_nil_of_length_eq_zero (by simpa [cellsAll] using hl)
  subst this
  exact ⟨[], ⟨rfl, fun j u y hu => by simp at hu⟩, rfl⟩
 | t :: ts, cs, hl, h => by
  have hl' : cs.length = P.cellsOf t + cellsAll P ts := by simpa [cellsAll] using hl
  obtain ⟨d1, hr1, hR1⟩ := h 0 t rfl
  have e0 : (cs.drop (cellsAll P ((t :: ts).take 0))).take (P.cellsOf t) = cs.take (P.cellsOf t) := by simp [cellsAll]
  rw [e0] at hr1
  obtain ⟨d2, hr2, hR2⟩ := parts_of (P := P) (R := R) ts (cs.drop (P.cellsOf t)) (by simp [hl']) (fun i t' ht' => by
   obtain ⟨ds, k1, k2⟩ := h (i + 1) t' (by simpa using ht')
   refine ⟨ds, ?_, k2⟩
   rw [List.drop_drop]
   have : cellsAll P ((t :: ts).take (i + 1)) = P.cellsOf t + cellsAll P (ts.take i) := by simp [cellsAll]
   rw [this] at k1; exact k1)
  have hd1 : d1.length = P.cellsOf t := by rw [hr1.1]; simp; omega
  refine ⟨d1 ++ d2, ?_, ?_⟩
  ·have := reads_append hr1 hr2
   rwa [List.take_append_drop] at this
  ·refine ⟨by simp; omega, ?_, ?_⟩
   ·rw [List.take_left' hd1]; exact hR1
   ·rw [List.drop_left' hd1]; exact hR2
theorem offs_at {P : Program} : ∀ (fs : List Field) (o : Nat), offs P o fs = true → ∀ (i : Nat) f, fs[i]? = some f → f.offset = o + cellsAll P ((fs.map (·.type)).take i)
 | [], o, h, i, f, hf => by simp at hf
 | g :: fs, o, h, i, f, hf => by
  simp only [offs, Bool.and_eq_true, beq_iff_eq] at h
  cases i with
  | zero => simp at hf; subst hf; simp [cellsAll, h.1]
  | succ i =>
   have := offs_at fs _ h.2 i f (by simpa using hf)
   rw [this]
   simp [cellsAll]; omega
theorem typed_head {P : Program} {k : Nat} {t : TypeId} {ds : List D} (h : Typed P k t ds) (hg : good P k t = true) (hr : rowT P t ≠ some true) : ∃ y, ds = [y] ∧ y.cells = [y] := by
 cases k with
 | zero => exact h.elim
 | succ k =>
  simp only [Typed] at h
  split at h
  ·obtain ⟨b, rfl⟩ := h; exact ⟨_, rfl, rfl⟩
  ·obtain ⟨m, rfl, _⟩ := h; exact ⟨_, rfl, rfl⟩
  ·obtain ⟨s, rfl, _⟩ := h; exact ⟨_, rfl, rfl⟩
  ·obtain ⟨xs, rfl, _⟩ := h; exact ⟨_, rfl, rfl⟩
  ·rename_i fs hu; exact absurd (by simp [rowT, hu]) hr
  ·rename_i n e hu; exact absurd (by simp [rowT, hu]) hr
  ·exact h.elim
theorem cells_get {W : World} {base n : Nat} {a : Addr} {cs : List Value} (h : W.cells? base a n = some cs) : cs.length = n ∧ ∀ (j : Nat), j < n → W.cell? (a.add j) = cs[j]? := by
 unfold World.cells? at h
 split at h
 ·refine ⟨by simpa using mapM_some_length h, fun j hj => ?_⟩
  exact mapM_some_get h j j (by simp [hj])
 ·cases h
theorem trod_typed {H : Type} {enc : TypeId × Value → H} {P : Program} {W : World} {base : Nat} {spare : Nat → Bool} {held : Bool} : ∀ (k n : Nat) (t : TypeId) (cs : List Value) (x : DataW H × List MemPlace), good P k t = true → DataW.trod enc P W base spare held n t cs = some x → ∃ ds, Reads W cs ds ∧ Typed P k t ds
 | 0, n, t, cs, x, hg, h => by simp [good] at hg
 | k + 1, 0, t, cs, x, hg, h => by simp [DataW.trod] at h
 | k + 1, n + 1, t, cs, x, hg, h => by
  have ih := trod_typed (enc := enc) (P := P) (W := W) (base := base) (spare := spare) (held := held) k n
  simp only [good] at hg
  split at hg
  ·rename_i hu
   unfold DataW.trod at h
   rw [hu] at h
   split at h <;> simp_all
   rename_i b
   exact ⟨[.val (.bool b)], reads_one (.val _ rfl) rfl, by simp [Typed, hu]⟩
  ·rename_i q hu
   unfold DataW.trod at h
   rw [hu] at h
   split at h <;> simp_all
   rename_i k1 k2 m heq
   exact ⟨[.val (.int k1 m)], reads_one (.val _ rfl) rfl, by simp [Typed, hu]; exact h.1.2⟩
  ·rename_i hu
   unfold DataW.trod at h
   rw [hu] at h
   split at h <;> simp_all
   rename_i s
   exact ⟨[.val (.string s)], reads_one (.val _ rfl) rfl, by simp [Typed, hu]; exact h.1⟩
  ·rename_i e hu
   simp only [Bool.and_eq_true, decide_eq_true_eq] at hg
   obtain ⟨hg1, hg2⟩ := hg
   unfold DataW.trod at h
   rw [hu] at h
   split at h <;> simp_all
   ·rename_i e' heq
    exact ⟨[.sl false []], reads_one (Rep.sl false none 0 0 [] ⟨0, 0, none⟩ (by simp) (by simp) (by simp) (by simp) (by simp) (by simp) (by simp)) rfl, by simp [Typed, hu]⟩
   ·rename_i e' a len cap heq
    obtain ⟨⟨hb, hle, hcm⟩, h⟩ := h
    obtain ⟨elems, hel, _⟩ := Option.bind_eq_some_iff.1 h
    have each : ∀ i, i < len → ∃ x : D, x.cells.length = P.cellsOf e' ∧ Typed P k e' x.cells ∧ x = (if rowT P e' = some true then .agg x.cells else x.cells.headD .any) ∧ ∀ (j : Nat) y, x.cells[j]? = some y → ∃ u, W.cell? (a.add (i * P.cellsOf e' + j)) = some u ∧ Rep (fun _ => True) W u y := fun i hi => by
     have hget := mapM_some_get hel i i (by simp [hi])
     have hlen := mapM_some_length hel
     have hil : i < elems.length := by rw [hlen]; simpa using hi
     rw [List.getElem?_eq_getElem hil] at hget
     obtain ⟨c, hc, hct⟩ := Option.bind_eq_some_iff.1 hget
     obtain ⟨hcl, hcell⟩ := cells_get hc
     obtain ⟨ds, hr, ht⟩ := ih e' c elems[i].1 elems[i].2 hg1 hct
     have hcells : ∀ (x : D), x.cells = ds → ∀ (j : Nat) y, x.cells[j]? = some y → ∃ u, W.cell? (a.add (i * P.cellsOf e' + j)) = some u ∧ Rep (fun _ => True) W u y := fun x hx j y hy => by
      rw [hx] at hy
      have hj : j < c.length := by rw [← hr.1]; exact (List.getElem?_eq_some_iff.1 hy).1
      refine ⟨c[j], ?_, (hr.2 j _ y (List.getElem?_eq_getElem hj) hy).1⟩
      rw [← add_add, hcell j (by omega), List.getElem?_eq_getElem hj]
     by_cases hrow : rowT P e' = some true
     ·exact ⟨.agg ds, by show ds.length = _; rw [hr.1, hcl], ht, by rw [if_pos hrow]; rfl, hcells _ rfl⟩
     ·obtain ⟨y, rfl, hy⟩ := typed_head ht hg1 hrow
      exact ⟨y, by rw [hy, hr.1, hcl], by rw [hy]; exact ht, by rw [if_neg hrow, hy]; rfl, hcells _ hy⟩
    obtain ⟨f, hf⟩ : ∃ f : Nat → D, ∀ i, i < len → (f i).cells.length = P.cellsOf e' ∧ Typed P k e' (f i).cells ∧ f i = (if rowT P e' = some true then .agg (f i).cells else (f i).cells.headD .any) ∧ ∀ (j : Nat) y, (f i).cells[j]? = some y → ∃ u, W.cell? (a.add (i * P.cellsOf e' + j)) = some u ∧ Rep (fun _ => True) W u y :=
     ⟨fun i => open Classical in if h : i < len then Classical.choose (each i h) else .any, fun i hi => by simp only [dif_pos hi]; exact Classical.choose_spec (each i hi)⟩
    have hget : ∀ (i : Nat) x, ((List.range len).map f)[i]? = some x → i < len ∧ x = f i := fun i x hx => by
     simp only [List.getElem?_map, Option.map_eq_some_iff] at hx
     obtain ⟨i', hi', rfl⟩ := hx
     obtain ⟨h1, h2⟩ := List.getElem?_eq_some_iff.1 hi'
     simp at h1 h2
     subst h2; exact ⟨h1, rfl⟩
    have hsl := Rep.sl (ok := fun _ => True) (W := W) false (some a) cap (P.cellsOf e') ((List.range len).map f) a (by simpa using hle) (by simp; unfold maxLen at hcm; omega) (by simp) (by simp) (fun i x hx => by
      obtain ⟨hi, rfl⟩ := hget i x hx; exact (hf i hi).1) (fun i j x y hx hy => by
      obtain ⟨hi, rfl⟩ := hget i x hx
      obtain ⟨u, hu', _⟩ := (hf i hi).2.2.2 j y hy
      exact ⟨trivial, by rw [hu']; rfl⟩) (fun i j x y u hx hy hu' => by
      obtain ⟨hi, rfl⟩ := hget i x hx
      obtain ⟨u', hu2, hr⟩ := (hf i hi).2.2.2 j y hy
      rw [hu2] at hu'; injection hu' with hu'; subst hu'; exact hr)
    simp only [List.length_map, List.length_range] at hsl
    refine ⟨[.sl false ((List.range len).map f)], reads_one hsl rfl, ?_⟩
    simp only [Typed, hu]
    refine ⟨_, rfl, fun x hx => ?_⟩
    obtain ⟨i, hi, rfl⟩ := List.mem_map.1 hx
    have := hf i (by simpa using hi)
    exact ⟨this.2.1, this.2.2.1⟩
  ·rename_i fs' hu
   simp only [Bool.and_eq_true, beq_iff_eq, List.all_eq_true] at hg
   obtain ⟨⟨hg1, hg2⟩, hg3⟩ := hg
   simp only [DataW.trod, hu] at h
   split at h
   case isFalse => cases h
   rename_i hl
   obtain ⟨xs, hxs, _⟩ := Option.map_eq_some_iff.1 h
   rw [hg3] at hl
   have hp := parts_of (P := P) (W := W) (R := Typed P k) (fs'.toList.map (·.type)) cs hl (fun i t' ht' => by
    simp only [List.getElem?_map, Option.map_eq_some_iff] at ht'
    obtain ⟨fd, hfd, rfl⟩ := ht'
    have hget := mapM_some_get hxs i fd hfd
    have hlen := mapM_some_length hxs
    have hil : i < xs.length := by rw [hlen]; exact (List.getElem?_eq_some_iff.1 hfd).1
    rw [List.getElem?_eq_getElem hil] at hget
    have hoff := offs_at _ _ hg2 i fd hfd
    rw [Nat.zero_add] at hoff
    rw [hoff] at hget
    exact ih fd.type _ xs[i] (hg1 fd (by simpa using List.mem_of_getElem? hfd)) hget)
   obtain ⟨ds, h1, h2⟩ := hp
   exact ⟨ds, h1, by simp only [Typed, hu]; exact h2⟩
  ·rename_i m e hu
   simp only [Bool.and_eq_true, beq_iff_eq] at hg
   simp only [DataW.trod, hu] at h
   split at h
   case isFalse => cases h
   rename_i hl
   obtain ⟨xs, hxs, _⟩ := Option.map_eq_some_iff.1 h
   rw [hg.2] at hl
   have hp := parts_of (P := P) (W := W) (R := Typed P k) (List.replicate m e) cs (by rw [hl]; simp [cellsAll]) (fun i t' ht' => by
    rw [List.getElem?_replicate] at ht'
    split at ht'
    ·rename_i hi
     injection ht' with ht'; subst ht'
     have hget := mapM_some_get hxs i i (by simp [hi])
     have hlen := mapM_some_length hxs
     have hil : i < xs.length := by rw [hlen]; simpa using hi
     rw [List.getElem?_eq_getElem hil] at hget
     have e1 : cellsAll P ((List.replicate m e).take i) = i * P.cellsOf e := by
      rw [List.take_replicate, Nat.min_eq_left (by omega)]; simp [cellsAll]
     rw [e1]
     exact ih e _ xs[i] hg.1 hget
    ·cases ht')
   obtain ⟨ds, h1, h2⟩ := hp
   exact ⟨ds, h1, by simp only [Typed, hu]; exact h2⟩
  ·cases hg
end Go.Proofs.YtijebgceopddmaaDoor.Ax
end
section
set_option linter.unusedVariables false
set_option linter.unusedSimpArgs false
namespace Go.Proofs.YtijebgceopddmaaDoor.Ax
open Go.RowKit Go.ChangeShapes Go.WideShapes Go.ChangeAt Go.Proofs.YtijebgceopddmaaDoor.Gf
theorem Spec.run {P : Program} {Γ : World → Prop} {f : FuncId} {ds : List D} {r : T} (h : Spec P Γ f (ds.map T.d) r) {W : World} (hG : Γ W) (vs : List Value) (hl : vs.length = ds.length) (hargs : ∀ (i : Nat) v x, vs[i]? = some v → ds[i]? = some x → Rep (fun _ => True) W v x) :
    Calls P f vs.toArray W fun e W' => ∃ v, e = .returned v ∧ RepR (fun _ => True) W' v r ∧ Below W.heap.size W W' := by
  obtain ⟨_, ds', h2, h3⟩ := h
  have hid : ∀ l : List D, (l.map T.d).map toD = l := fun l => by rw [List.map_map]; exact List.map_id l
  have e : ds' = ds := by
    have := congrArg (List.map toD) h2
    rw [hid, hid] at this
    exact this.symm
  subst e
  refine (h3 (fun _ => True) W vs hG hl hargs).mono fun e W' hh => ?_
  obtain ⟨v, rfl, hv, hb⟩ := hh
  refine ⟨v, rfl, ?_, hb⟩
  cases r with
  | d x => exact Rep.mono (fun k _ _ => trivial) hv
  | tup ts => obtain ⟨vs', k1, k2, k3⟩ := hv; exact ⟨vs', k1, k2, fun i u y hu hy => (k3 i u y hu hy).mono fun k _ _ => trivial⟩
  | ptr i off => exact hv.elim
  | eptr x => exact hv.elim
def BytesL (xs : List Int) : Prop := ∀ n, n ∈ xs → 0 ≤ n ∧ n < 256
def BytesG (m : List (List Int)) : Prop := ∀ r, r ∈ m → BytesL r
theorem wf_u8 {n : Int} (h : (Lit.int .u8 n).wf = true) : 0 ≤ n ∧ n < 256 := by
  simp only [Lit.wf, Bool.and_eq_true, decide_eq_true_eq] at h
  have h1 : IntKind.u8.min = 0 := rfl
  have h2 : IntKind.u8.max = 255 := rfl
  omega
section
variable {P : Program} {k : Nat}
theorem typed_row {t e : TypeId} (ht : P.underlying t = some (.slice e)) (he : P.underlying e = some (.int .u8)) {ds : List D} (h : Typed P (k + 2) t ds) : ∃ xs, ds = [rowD .u8 xs] ∧ BytesL xs := by
  simp only [Typed, ht, he] at h
  obtain ⟨ys, rfl, hy⟩ := h
  have hall : ∀ y, y ∈ ys → ∃ n, y = iD .u8 n ∧ 0 ≤ n ∧ n < 256 := fun y hm => by
    obtain ⟨⟨n, hn, hw⟩, he'⟩ := hy y hm
    refine ⟨n, ?_, wf_u8 hw⟩
    rw [if_neg (by simp [rowT, he]), hn] at he'
    exact he'
  have : ∀ ys : List D, (∀ y, y ∈ ys → ∃ n, y = iD .u8 n ∧ 0 ≤ n ∧ n < 256) → ∃ xs : List Int, ys = xs.map (iD .u8) ∧ BytesL xs := fun ys => by
    induction ys with
    | nil => intro _; exact ⟨[], rfl, fun n hn => by simp at hn⟩
    | cons y ys ih =>
      intro hh
      obtain ⟨n, rfl, hn⟩ := hh y (by simp)
      obtain ⟨xs, rfl, hx⟩ := ih fun z hz => hh z (by simp [hz])
      exact ⟨n :: xs, rfl, fun q hq => by
        rcases List.mem_cons.1 hq with rfl | hq
        · exact hn
        · exact hx q hq⟩
  obtain ⟨xs, rfl, hb⟩ := this ys hall
  exact ⟨xs, rfl, hb⟩
theorem typed_grid {t e q : TypeId} (ht : P.underlying t = some (.slice e)) (he : P.underlying e = some (.slice q)) (hq : P.underlying q = some (.int .u8)) {ds : List D} (h : Typed P (k + 3) t ds) : ∃ m, ds = [gridD .u8 m] ∧ BytesG m := by
  have h' : ∃ xs, ds = [.sl false xs] ∧ ∀ x, x ∈ xs → Typed P (k + 2) e x.cells ∧ x = (if rowT P e = some true then .agg x.cells else x.cells.headD .any) := by
    rw [Typed] at h
    simp only [ht] at h
    exact h
  obtain ⟨ys, rfl, hy⟩ := h'
  have hall : ∀ y, y ∈ ys → ∃ r, y = rowD .u8 r ∧ BytesL r := fun y hm => by
    obtain ⟨h1, h2⟩ := hy y hm
    obtain ⟨r, hr, hb⟩ := typed_row he hq h1
    refine ⟨r, ?_, hb⟩
    rw [if_neg (by simp [rowT, he]), hr] at h2
    exact h2
  have : ∀ ys : List D, (∀ y, y ∈ ys → ∃ r, y = rowD .u8 r ∧ BytesL r) → ∃ m : List (List Int), ys = m.map (rowD .u8) ∧ BytesG m := fun ys => by
    induction ys with
    | nil => intro _; exact ⟨[], rfl, fun n hn => by simp at hn⟩
    | cons y ys ih =>
      intro hh
      obtain ⟨r, rfl, hr⟩ := hh y (by simp)
      obtain ⟨m, rfl, hm⟩ := ih fun z hz => hh z (by simp [hz])
      exact ⟨r :: m, rfl, fun q hq => by
        rcases List.mem_cons.1 hq with rfl | hq
        · exact hr
        · exact hm q hq⟩
  obtain ⟨m, rfl, hb⟩ := this ys hall
  exact ⟨m, rfl, hb⟩
end
theorem own : ownKnob Tryd.prog.godebug = none := by kernel_rfl
theorem laidOut : laidOutB Tryd.prog = true := by kernel_rfl
theorem gHigh : Tryd.prog.globalNamed "quietus/gf.high" = some 0 := by kernel_rfl
abbrev laid : List (String × DataW Unit) := [("quietus/gf.high", Rows.laid_quietus_gf_high)]
theorem door_met (os : Os) (args : Array Value) : laidMetH Tryd.prog laid ((World.doorLaid Tryd.prog 400 os).forCall (fun _ _ => 0) ⟨#[], args, []⟩).memory :=
  laidMetH_of_parts3 (fuel := 8) (laidMet_of_run' 8 (by kernel_rfl) (by kernel_rfl)) (by kernel_rfl) (by kernel_rfl)
theorem tHigh : (Tryd.prog.globals[0]?).map (·.type) = some 87 := by kernel_rfl
theorem of_laid {W : World} (h : laidMetH Tryd.prog laid W) : HighIn W := by
  rw [MakeChecks.laidMetH_plain _ _ _ (by kernel_rfl)] at h
  obtain ⟨ps, ⟨g0, t0, cs0, f0, p0, q0, hg0, ht0, hv0, hd0, _⟩, _⟩ := h
  obtain rfl := Option.some.inj (gHigh.symm.trans hg0)
  obtain rfl := Option.some.inj (tHigh.symm.trans ht0)
  obtain ⟨xs, m1, rfl, hx1, hlen, hn3, hel⟩ := DataW.trod_array Tryd.underlying87 hd0
  have c5 : Tryd.prog.cellsOf 5 = 1 := by kernel_rfl
  simp only [Prod.mk.injEq] at hx1
  have hxs : xs.map (·.1) = (highL.map fun n => (DataW.lit (Lit.int .u8 n) : DataW Unit)) := by
    have := hx1.1
    simp only [Rows.laid_quietus_gf_high, DataW.agg.injEq] at this
    exact this.symm
  intro j hj
  have h1 := hel j hj
  rw [c5, Nat.mul_one] at h1
  have hjx : j < xs.length := by omega
  rw [List.getElem?_eq_getElem hjx] at h1
  obtain ⟨k, e1, e2, _⟩ := DataW.trod_int Tryd.underlying5 h1
  have h3 : (xs.map (·.1))[j]? = some (DataW.lit (Lit.int .u8 k)) := by
    rw [List.getElem?_map, List.getElem?_eq_getElem hjx, e2]; rfl
  rw [hxs, List.getElem?_map] at h3
  have hjl : j < highL.length := hj
  rw [List.getElem?_eq_getElem hjl] at h3
  simp only [Option.map_some, Option.some.injEq, DataW.lit.injEq, Lit.int.injEq] at h3
  have hk : k = highL.getD j 0 := by rw [List.getD_eq_getElem?_getD, List.getElem?_eq_getElem hjl]; exact h3.2.symm
  rw [World.var?_cell hg0 hv0 j, ← hk]
  have h4 : ((cs0.toList.drop j).take 1)[0]? = some (.int .u8 k) := by rw [e1]; rfl
  simpa using h4
theorem okWide_arr {P : Program} {w : World} {r : Reach} {base : Nat} {t : TypeId} {v : Value} {n : Nat} {e : TypeId} (ht : P.underlying t = some (.array n e)) (h : Value.okWide P w r base t v) : ∃ cs, v = .agg cs := by
  simp only [Value.okWide, ht] at h
  obtain ⟨cs, rfl, _⟩ := h
  exact ⟨cs, rfl⟩
theorem agg_of_reads {W : World} {cs : Array Value} {ds : List D} (h : Reads W (Value.agg cs).cells.toList ds) : Rep (fun _ => True) W (.agg cs) (.agg ds) := by
  have h' : Reads W cs.toList ds := h
  refine .agg cs ds (by have := h'.1; simpa using this.symm) (fun j u hu => ?_) (fun j u y hu hy => (h'.2 j u y (by simpa using hu) hy).1)
  have hj : j < ds.length := by rw [h'.1]; have := (Array.getElem?_eq_some_iff.1 hu).1; simpa using this
  obtain ⟨h1, h2⟩ := h'.2 j u _ (by simpa using hu) (List.getElem?_eq_getElem hj)
  exact rep_one h1 h2
theorem typed_pair {P : Program} {k : Nat} {t s e : TypeId} (ht : P.underlying t = some (.array 2 s)) (hs : P.underlying s = some (.slice e)) (he : P.underlying e = some (.int .u8)) (hc : P.cellsOf s = 1) {ds : List D} (h : Typed P (k + 3) t ds) : ∃ m n, ds = [rowD .u8 m, rowD .u8 n] ∧ BytesL m ∧ BytesL n := by
  rw [Typed] at h
  simp only [ht, List.replicate, Parts, hc] at h
  obtain ⟨h1, h2, h3, h4, h5⟩ := h
  obtain ⟨m, hm, bm⟩ := typed_row hs he h2
  obtain ⟨n, hn, bn⟩ := typed_row hs he h4
  refine ⟨m, n, ?_, bm, bn⟩
  have : ds = ds.take 1 ++ (ds.drop 1).take 1 ++ (ds.drop 1).drop 1 := by rw [List.append_assoc, List.take_append_drop, List.take_append_drop]
  rw [this, hm, hn, h5]; rfl
end Go.Proofs.YtijebgceopddmaaDoor.Ax
end
section
set_option linter.unusedVariables false
set_option linter.unusedSimpArgs false
namespace Go.Proofs.YtijebgceopddmaaDoor.Ax
open Go.RowKit Go.Proofs.YtijebgceopddmaaDoorW.PrintWords Go.Proofs.YtijebgceopddmaaDoor.Gf Go.Proofs.YtijebgceopddmaaDoor.Pa Go.Proofs.YtijebgceopddmaaDoor.Fn QMat
section
variable {k : IntKind} {x y : Int}
theorem neqT (h : x ≠ y) : intOp .neq k x y = some (.bool true) := by simp [intOp, h]
theorem neqF (h : x = y) : intOp .neq k x y = some (.bool false) := by simp [intOp, h]
theorem eqlT (h : x = y) : intOp .eql k x y = some (.bool true) := by simp [intOp, h]
theorem eqlF (h : x ≠ y) : intOp .eql k x y = some (.bool false) := by simp [intOp, h]
end
theorem byteL_of {r : List Int} (h : BytesL r) : ByteL r := fun j => by
  by_cases hj : j < r.length
  · rw [List.getD_eq_getElem?_getD, List.getElem?_eq_getElem hj]; exact h _ (List.getElem_mem hj)
  · rw [List.getD_eq_getElem?_getD, List.getElem?_eq_none (by omega)]; exact byte_zero
theorem bytes_of {m : List (List Int)} (h : BytesG m) : Bytes m := fun i j => by
  have hr : BytesL (m.getD i []) := by
    by_cases hi : i < m.length
    · have e : m.getD i [] = m[i] := by rw [List.getD_eq_getElem?_getD, List.getElem?_eq_getElem hi]; rfl
      rw [e]; exact h _ (List.getElem_mem hi)
    · have e : m.getD i [] = [] := by rw [List.getD_eq_getElem?_getD, List.getElem?_eq_none (by omega)]; rfl
      rw [e]; intro n hn; simp at hn
  exact byteL_of hr j
theorem valid_of {m : Grid} {h w : Nat} (s : Shape m h w) (hp : 0 < h) (hh : h ≤ 48) (hw : w ≤ 48) : Valid m := by
  have hl : m.length = h := s.rows
  have hc := shape_cols s hp
  have hrow : ∀ r, r ∈ m → r.length = w := fun r hr => by
    obtain ⟨i, hi, rfl⟩ := List.getElem_of_mem hr
    have := s.cols i (by omega)
    rw [List.getD_eq_getElem?_getD, List.getElem?_eq_getElem hi] at this
    exact this
  exact ⟨by omega, fun r hr => by rw [hrow r hr]; exact hw, fun r hr => by rw [hrow r hr, hc]⟩
theorem ev_get {α : Type} {f : Nat → Option α} {r : α} (h : Fn.Ev f r) : ∃ k, f k = some r := by obtain ⟨K, hK⟩ := h; exact ⟨K, hK K (Nat.le_refl _)⟩
theorem gnil {m : Grid} (h : m.length = 0) : m = [] := List.eq_nil_of_length_eq_zero h
end Go.Proofs.YtijebgceopddmaaDoor.Ax
end
section
set_option linter.unusedVariables false
set_option linter.unusedSimpArgs false
namespace Go.Proofs.YtijebgceopddmaaDoor.Ax
open Go.RowKit Go.Proofs.YtijebgceopddmaaDoorW.PrintWords Go.Proofs.YtijebgceopddmaaDoor.Gf Go.Proofs.YtijebgceopddmaaDoor.Pa Go.Proofs.YtijebgceopddmaaDoor.Fn QMat QLin
theorem fits_le6 {m : Grid} {n : Nat} (h : fits m n = true) : m.length ≤ n ∧ cols m ≤ n := by
  unfold fits at h
  rw [Bool.and_eq_true, decide_eq_true_eq, List.all_eq_true] at h
  refine ⟨h.1, ?_⟩
  unfold cols
  cases m with
  | nil => simp
  | cons r m => simpa using h.2 r (by simp)
theorem valid_any {m : Grid} {h n : Nat} (s : Shape m h n) (hh : h ≤ 48) (hn : n ≤ 48) : Valid m := by
  rcases Nat.eq_zero_or_pos h with e | e
  · rw [gnil (m := m) (by rw [s.rows]; exact e)]; exact ⟨by simp, by simp, by simp⟩
  · exact valid_of s e hh hn
theorem byteL_zeros (n : Nat) : ByteL (List.replicate n 0) := fun i => by
  rw [List.getD_eq_getElem?_getD, List.getElem?_replicate]
  split <;> exact byte_zero
theorem vec_zeros (n : Nat) : vec (List.replicate n 0) = fun _ => (Fl.zero : QGf.B) := by
  funext i
  show fb ((List.replicate n 0).getD i 0) = _
  rw [List.getD_eq_getElem?_getD, List.getElem?_replicate]
  split <;> rfl
theorem law_MatrixSolutionsAreAll (m : List (List Int)) (b y : List Int) (hm : BytesG m) (hb : BytesL b) (hy : BytesL y) : Spec Tryd.prog HighIn 6 ([gridD .u8 m, .agg [rowD .u8 b, rowD .u8 y]].map T.d) (.d (.val (.bool true))) := by
  have Bm := bytes_of hm
  have Bb := byteL_of hb
  have By := byteL_of hy
  have F : quietusref05_Few.f 1002 m 20 = some (fits m 20) := Few_f (n := 20) (by omega) (by omega)
  have C := Check2_f m (Nat.le_refl 200)
  cases fm : fits m 20 with
  | false => exact p6_1 m b y (Columns_f m) (fm ▸ F)
  | true =>
  rw [fm] at F
  obtain ⟨h20, hc20⟩ := fits_le6 fm
  by_cases c1 : chk m = 0
  case neg => exact p6_2 m b y (Columns_f m) F C (neqT c1)
  by_cases c2 : b.length = m.length
  case neg => exact p6_3 m b y (Columns_f m) F C (neqF c1) (neqT (by omega))
  by_cases c3 : y.length = cols m
  case neg => exact p6_4 m b y (Columns_f m) F C (neqF c1) (neqF (by omega)) (neqT (by omega))
  have vm := chk_zero.1 c1
  have sm := vm.shape
  obtain ⟨k1, S1⟩ := ev_get (Solve_ev (b := b) Bm Bb)
  obtain ⟨k2, M1⟩ := ev_get (mapped_ev (b := b) vm Bm By c3)
  unfold SolveE at S1
  rw [if_pos c1, if_pos c2] at S1
  have hsol := solves_combR (x := y) Bm By Bb c2
  cases hs : solveG m b (cols m) with
  | none =>
    rw [hs] at S1
    rw [decide_eq_false (fun e => solve_none sm Bm Bb hs (hsol.1 e))] at M1
    exact p6_5 m b y (Columns_f m) F C (neqF c1) (neqF (by omega)) (neqF (by omega)) S1 M1 (eqlT rfl)
  | some s =>
  obtain ⟨x, K⟩ := s
  rw [hs] at S1
  dsimp only at S1
  obtain ⟨lx, Bx, hx, sK, BK, rK, hker, hall⟩ := solve_some sm Bm Bb hs
  have hrl := (rank_le sm Bm).2
  have lK : K.length = cols m - rankG m := sK.rows
  have vK := valid_any sK (by omega) (by omega)
  obtain ⟨k3, R1⟩ := ev_get (Rank_valid vm Bm)
  obtain ⟨k4, R2⟩ := ev_get (Rank_valid vK BK)
  obtain ⟨k5, M2⟩ := ev_get (mapped_ev (b := b) vm Bm Bx lx)
  rw [decide_eq_true ((solves_combR (x := x) Bm Bx Bb c2).2 hx)] at M2
  have hsub : intOp .sub .i64 (cols m : Int) (rankG m : Int) = some (.int .i64 ((cols m - rankG m : Nat) : Int)) := subI (by omega) (by omega) (by omega)
  have hrows : ∀ i : Nat, i < K.length → ∃ (kh34 : Nat), intOp .neq .i64 (((K.getD i []).length : Nat)) (cols m : Int) = some (.bool false) ∧ quietuslaw05_mapped.f kh34 m (K.getD i []) (List.replicate m.length 0) = some true := fun i hi => by
    have hl : (K.getD i []).length = cols m := sK.cols i (by omega)
    obtain ⟨q, hq⟩ := ev_get (mapped_ev (x := K.getD i []) (b := List.replicate m.length 0) vm Bm (fun j => BK i j) hl)
    rw [decide_eq_true ((solves_combR (x := K.getD i []) Bm (fun j => BK i j) (byteL_zeros _) (by simp)).2 (by rw [vec_zeros]; exact hker i (by omega)))] at hq
    exact ⟨q, neqF (by omega), hq⟩
  have hlsum : (sumR y 1 x).length = cols m := by rw [len_sumR]; exact c3
  have Bs : ByteL (sumR y 1 x) := byte_sumR By ⟨by omega, by omega⟩ Bx
  have Su : quietusref05_Sum.f 1100 y 1 x = some (sumR y 1 x) := Sum_f By ⟨by omega, by omega⟩ Bx (by omega) (by omega) (Nat.le_refl _)
  obtain ⟨k6, E1⟩ := ev_get (Express_ev (m := K) (r := sumR y 1 x) BK Bs)
  unfold ExprE at E1
  rw [if_pos (chk_zero.2 vK), if_neg (by omega), if_neg (fun h => h.2 (by rw [shape_cols sK (by omega)]; exact hlsum))] at E1
  have hspan : Solves m.length (cols m) (fn m) (vec b) (vec y) ↔ InSpan (cols m - rankG m) (fn K) (vec (sumR y 1 x)) := by
    rw [fb_sumR_one By Bx (by omega)]
    exact hall y c3 By
  by_cases hsy : Solves m.length (cols m) (fn m) (vec b) (vec y)
  · rw [decide_eq_true (hsol.2 hsy)] at M1
    cases he : exprG K (sumR y 1 x) with
    | none => exact absurd (hspan.1 hsy) (express_none sK BK Bs hlsum he)
    | some l =>
      rw [he] at E1
      exact p6_6 m b y h20 (by omega) (Columns_f m) F C (neqF c1) (neqF (by omega)) (neqF (by omega)) S1 M1 (eqlF (by omega)) R1 R2 (neqF rfl) (neqF rfl) (neqF rfl) (neqF (by omega)) M2 hsub (neqF (by omega)) hsub (neqF (by omega)) hrows Su E1 (eqlT rfl)
  · rw [decide_eq_false (fun e => hsy (hsol.1 e))] at M1
    cases he : exprG K (sumR y 1 x) with
    | some l => exact absurd (hspan.2 ⟨_, (express_some sK BK Bs hlsum he).2.2.1⟩) hsy
    | none =>
      rw [he] at E1
      exact p6_7 m b y h20 (by omega) (Columns_f m) F C (neqF c1) (neqF (by omega)) (neqF (by omega)) S1 M1 (eqlF (by omega)) R1 R2 (neqF rfl) (neqF rfl) (neqF rfl) (neqF (by omega)) M2 hsub (neqF (by omega)) hsub (neqF (by omega)) hrows Su E1 (eqlF (by omega)) (eqlT rfl)
end Go.Proofs.YtijebgceopddmaaDoor.Ax
end
