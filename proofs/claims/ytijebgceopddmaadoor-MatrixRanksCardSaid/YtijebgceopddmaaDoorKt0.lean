/- Parts of the proof, laid together by a program of this session: Ax, Ax2, Ax3, Ax4, Ax5, AxRow, Ax6, AxDrawn, AxCode, Ax7, WWords, WLast, WQPut. -/
import Derived.WalkKit
import Derived.Below
import Derived.KernelRfl
import Derived.Laws.Slices
import Derived.Deep.AppendSrc
import Derived.Deep.Draws
import Derived.Orders
import Derived.Deep.AppendLies
import Derived.Maps.AppendAt
import Derived.OwnWalk
import Derived.Laws.BytesArg
import Derived.Laws.MakeOwn
import Derived.Laws.OwnMore
import Derived.Deep.OwnRows
import Derived.Tactics
import Derived.Lib.ConvBytes
import Derived.RowKit3
import Derived.Deep.LoopGhost
import Derived.Deep.QuietTactic
import Derived.BigQuiet
import Derived.WideLaws
import Derived.Deep.DeepCutAuto
import Derived.Deep.CutBlock
import Derived.Deep.RegionHeld3
import Derived.Laws.Rows
import Derived.Lib.AppendStr
import Derived.ArgAppend
import Derived.Laws.IdiomCopy
import Derived.RowKit
import Derived.OrdersHeld
import Derived.Laws.BitsLemmas
set_option linter.unusedVariables false
set_option linter.unusedSimpArgs false
section
set_option linter.unusedVariables false
set_option linter.unusedSimpArgs false
namespace Go.Proofs.YtijebgceopddmaaDoor.Ax
open Go.RowKit
inductive D where
  | any
  | val (v : Value)
  | sl (ex : Bool) (xs : List D)
  | agg (cs : List D)
instance : Inhabited D := ⟨.any⟩
def D.cells : D → List D
  | .agg cs => cs
  | t => [t]
inductive T where
  | d (x : D)
  | tup (ts : List D)
  | ptr (i off : Nat)
  | eptr (x : D)
  | row (i n c : Nat)
instance : Inhabited T := ⟨.d .any⟩
def ofV1 : Value → D
  | .slice Option.none 0 0 => .sl true []
  | .agg _ => .any
  | .tuple _ => .any
  | v => .val v
def ofV : Value → D
  | .agg vs => if vs.all (·.oneCell') then .agg (vs.toList.map ofV1) else .any
  | v => ofV1 v
inductive Rep (ok : Nat → Prop) (W : World) : Value → D → Prop
  | any (v : Value) : Rep ok W v .any
  | val (v : Value) (h : v.oneCell' = true) : Rep ok W v (.val v)
  | sl (ex : Bool) (A : Option Addr) (c sz : Nat) (xs : List D) (ad : Addr) (hc : xs.length ≤ c) (hm : xs.length ≤ 9223372036854775807) (hex : ex = true → c = xs.length) (hA : 0 < xs.length → A = some ad)
      (hs : ∀ (i : Nat) x, xs[i]? = some x → x.cells.length = sz)
      (hok : ∀ (i j : Nat) x y, xs[i]? = some x → x.cells[j]? = some y → ok ad.block ∧ (W.cell? (ad.add (i * sz + j))).isSome = true)
      (h : ∀ (i j : Nat) x y u, xs[i]? = some x → x.cells[j]? = some y → W.cell? (ad.add (i * sz + j)) = some u → Rep ok W u y) : Rep ok W (.slice A xs.length c) (.sl ex xs)
  | agg (vs : Array Value) (cs : List D) (hl : vs.size = cs.length) (h1 : ∀ (j : Nat) u, vs[j]? = some u → u.oneCell' = true) (h : ∀ (j : Nat) u y, vs[j]? = some u → cs[j]? = some y → Rep ok W u y) : Rep ok W (.agg vs) (.agg cs)
theorem cell_lt {W : World} {p : Addr} (h : (W.cell? p).isSome = true) : p.block < W.heap.size := by
  obtain ⟨v, hv⟩ := Option.isSome_iff_exists.1 h
  exact World.block_lt_of_cell? W p hv
theorem add_block (a : Addr) (n : Nat) : (a.add n).block = a.block := by unfold Addr.add; split <;> rfl
theorem add_add (a : Addr) (m n : Nat) : (a.add m).add n = a.add (m + n) := by
  unfold Addr.add
  by_cases hn : n = 0
  · subst hn; simp
  · by_cases hm : m = 0
    · subst hm; simp
    · simp [hm, hn, Nat.add_assoc]
theorem Rep.move {ok ok' : Nat → Prop} {W W' : World} (hk : ∀ k, ok k → k < W.heap.size → ok' k ∧ W'.heap[k]? = W.heap[k]?) {v : Value} {t : D} (h : Rep ok W v t) : Rep ok' W' v t := by
  induction h with
  | any v => exact .any v
  | val v h => exact .val v h
  | sl ex A c sz xs ad hc hm hex hA hs hok h ih =>
    have hcell : ∀ (i j : Nat) x y, xs[i]? = some x → x.cells[j]? = some y → ok' ad.block ∧ W'.cell? (ad.add (i * sz + j)) = W.cell? (ad.add (i * sz + j)) := fun i j x y hx hy => by
      obtain ⟨h1, h2⟩ := hok i j x y hx hy
      have hlt := cell_lt h2
      rw [add_block] at hlt
      obtain ⟨h3, h4⟩ := hk _ h1 hlt
      refine ⟨h3, World.cell?_of_block (w := W) ?_⟩
      rw [add_block]; exact h4
    refine .sl ex A c sz xs ad hc hm hex hA hs (fun i j x y hx hy => ⟨(hcell i j x y hx hy).1, ?_⟩) (fun i j x y u hx hy hu => ?_)
    · rw [(hcell i j x y hx hy).2]; exact (hok i j x y hx hy).2
    · rw [(hcell i j x y hx hy).2] at hu; exact ih i j x y u hx hy hu
  | agg vs cs hl h1 h ih => exact .agg vs cs hl h1 ih
theorem Rep.mono {ok ok' : Nat → Prop} {W : World} (hk : ∀ k, ok k → k < W.heap.size → ok' k) {v : Value} {t : D} (h : Rep ok W v t) : Rep ok' W v t := h.move fun k h1 h2 => ⟨hk k h1 h2, rfl⟩
theorem Rep.under {ok : Nat → Prop} {W W' : World} (hb : Below W.heap.size W W') {v : Value} {t : D} (h : Rep ok W v t) : Rep ok W' v t := h.move fun k h1 h2 => ⟨h1, hb.block k h2⟩
def Fr (F : Nat → Prop) (β : List (Option Nat)) (k : Nat) : Prop := F k ∧ some k ∉ β
def RepT (F : Nat → Prop) (β : List (Option Nat)) (W : World) (v : Value) : T → Prop
  | .d x => Rep (Fr F β) W v x
  | .tup ts => ∃ vs : Array Value, v = .tuple vs ∧ vs.size = ts.length ∧ ∀ (i : Nat) u y, vs[i]? = some u → ts[i]? = some y → Rep (Fr F β) W u y
  | .ptr i off => β[i]? = some none ∨ ∃ b, β[i]? = some (some b) ∧ v = .pointer (some ⟨b, off, none⟩)
  | .row i n c => β[i]? = some none ∨ ∃ b, β[i]? = some (some b) ∧ v = .slice (some ⟨b, 0, none⟩) n c ∧ n ≤ c ∧ n ≤ 9223372036854775807
  | .eptr x => ∃ ad : Addr, v = .pointer (some ad) ∧ (∀ (j : Nat) y, x.cells[j]? = some y → Fr F β ad.block ∧ ∃ u, W.cell? (ad.add j) = some u ∧ Rep (Fr F β) W u y)
theorem RepT.move {F : Nat → Prop} {β β' : List (Option Nat)} {W W' : World} (hβ : ∀ (i : Nat) b, β[i]? = some b → β'[i]? = some b) (hk : ∀ k, Fr F β k → k < W.heap.size → Fr F β' k ∧ W'.heap[k]? = W.heap[k]?) {v : Value} {t : T} (h : RepT F β W v t) : RepT F β' W' v t := by
  cases t with
  | d x => exact Rep.move hk h
  | tup ts => obtain ⟨vs, h1, h2, h3⟩ := h; exact ⟨vs, h1, h2, fun i u y hu hy => (h3 i u y hu hy).move hk⟩
  | ptr i off => exact h.imp (hβ _ _) fun ⟨b, h1, h2⟩ => ⟨b, hβ _ _ h1, h2⟩
  | row i n c => exact h.imp (hβ _ _) fun ⟨b, h1, h2⟩ => ⟨b, hβ _ _ h1, h2⟩
  | eptr x =>
    obtain ⟨ad, h1, h2⟩ := h
    refine ⟨ad, h1, fun j y hy => ?_⟩
    obtain ⟨h3, u, h4, h5⟩ := h2 j y hy
    have hlt := World.block_lt_of_cell? W _ h4
    rw [add_block] at hlt
    obtain ⟨h6, h7⟩ := hk _ h3 hlt
    exact ⟨h6, u, by rw [World.cell?_of_block (w := W) (by rw [add_block]; exact h7)]; exact h4, h5.move hk⟩
structure St where
  f : Nat → T
  b : List (Option (TypeId × List D))
def St.put (S : St) (d : Nat) (t : T) : St := { S with f := fun i => if i = d then t else S.f i }
def St.putO (S : St) : Option Nat → T → St
  | some d, t => S.put d t
  | none, _ => S
def St.eval (S : St) : Operand → T
  | .tmp t => S.f t
  | .const v => .d (ofV v)
  | .global _ => .d .any
  | .func f => .d (.val (.func (.func f) #[] #[]))
def VarAt (F : Nat → Prop) (β : List (Option Nat)) (W : World) (b : Nat) (e : TypeId) (cs : List D) : Prop :=
  ∃ cells : Array Value, W.heap[b]? = some (.cells cells e (0, 0)) ∧ cells.size = cs.length ∧ (∀ (j : Nat) u, cells[j]? = some u → u.oneCell' = true) ∧ ∀ (j : Nat) u y, cells[j]? = some u → cs[j]? = some y → Rep (Fr F β) W u y
structure Rel (F : Nat → Prop) (Γ : World → Prop) (B0 : Nat) (W0 : World) (N : Nat) (β : List (Option Nat)) (S : St) (a : Act) (W : World) : Prop where
  below : Below B0 W0 W
  le : B0 ≤ W.heap.size
  gam : Γ W
  foot : ∀ k, B0 ≤ k → F k
  size : a.tmps.size = N
  defers : a.defers = []
  nodup : ∀ (i j b : Nat), β[i]? = some (some b) → β[j]? = some (some b) → i = j
  len : β.length = S.b.length
  live : ∀ (i : Nat) e, S.b[i]? = some (some e) → ∃ b, β[i]? = some (some b)
  own : ∀ b, some b ∈ β → B0 ≤ b ∧ b < W.heap.size
  slots : ∀ i, RepT F β W (a.tmps.getD i undef) (S.f i)
  vars : ∀ (i b : Nat) e cs, β[i]? = some (some b) → S.b[i]? = some (some (e, cs)) → VarAt F β W b e cs
theorem rep_ofV1 (ok : Nat → Prop) (W : World) (v : Value) : Rep ok W v (ofV1 v) := by
  unfold ofV1
  split
  · exact Rep.sl true none 0 0 [] ⟨0, 0, none⟩ (by simp) (by simp) (by simp) (by simp) (by simp) (by simp) (by simp)
  · exact .any _
  · exact .any _
  · rename_i h1 h2 h3
    refine .val _ ?_
    cases v <;> simp_all [Value.oneCell']
theorem rep_ofV (ok : Nat → Prop) (W : World) (v : Value) : Rep ok W v (ofV v) := by
  unfold ofV
  split
  · rename_i vs
    split
    · rename_i h
      refine .agg vs _ (by simp) (fun j u hu => ?_) (fun j u y hu hy => ?_)
      · obtain ⟨hj, e⟩ := Array.getElem?_eq_some_iff.1 hu
        have := Array.all_eq_true.1 h j hj
        rw [e] at this; exact this
      · simp only [List.getElem?_map, Array.getElem?_toList, hu, Option.map_some, Option.some.injEq] at hy
        subst hy; exact rep_ofV1 ok W u
    · exact .any _
  · exact rep_ofV1 ok W v
section
variable {F : Nat → Prop} {Γ : World → Prop} {B0 N : Nat} {W0 W : World} {β : List (Option Nat)} {S : St} {a : Act}
theorem Rel.eval (r : Rel F Γ B0 W0 N β S a W) (x : Operand) : RepT F β W (a.eval x) (S.eval x) := by
  cases x with
  | tmp t => exact r.slots t
  | const v => exact rep_ofV _ _ v
  | global g => exact Rep.any _
  | func f => exact Rep.val _ rfl
theorem Rel.put (r : Rel F Γ B0 W0 N β S a W) {d : Nat} (hd : d < N) {v : Value} {t : T} (h : RepT F β W v t) : Rel F Γ B0 W0 N β (S.put d t) (a.put (some d) v) W := by
  refine ⟨r.below, r.le, r.gam, r.foot, by simp [Act.put, r.size], r.defers, r.nodup, r.len, r.live, r.own, fun i => ?_, r.vars⟩
  simp only [Act.put, St.put, Array.getD_eq_getD_getElem?, Array.getElem?_setIfInBounds]
  by_cases e : i = d
  · subst e
    simp only [if_true, r.size, hd, Option.getD_some]; exact h
  · simp only [if_neg e, if_neg (fun e' => e (Eq.symm e') : ¬ d = i)]
    have := r.slots i
    rwa [Array.getD_eq_getD_getElem?] at this
theorem Rel.step (r : Rel F Γ B0 W0 N β S a W) {W' : World} (hb : Below W.heap.size W W') (hg : Γ W') : Rel F Γ B0 W0 N β S a W' := by
  have hk : ∀ k, Fr F β k → k < W.heap.size → Fr F β k ∧ W'.heap[k]? = W.heap[k]? := fun k h1 h2 => ⟨h1, hb.block k h2⟩
  refine ⟨r.below.trans (hb.mono r.le), Nat.le_trans r.le hb.size, hg, r.foot, r.size, r.defers, r.nodup, r.len, r.live, fun b h => ⟨(r.own b h).1, Nat.lt_of_lt_of_le (r.own b h).2 hb.size⟩, fun i => (r.slots i).move (fun _ _ h => h) hk, fun i b e cs h1 h2 => ?_⟩
  obtain ⟨cells, h3, h4, h5, h6⟩ := r.vars i b e cs h1 h2
  have hb' := (r.own b (List.mem_of_getElem? h1)).2
  exact ⟨cells, by rw [hb.block b hb']; exact h3, h4, h5, fun j u y hu hy => (h6 j u y hu hy).move hk⟩
theorem Rel.new (r : Rel F Γ B0 W0 N β S a W) (hΓ : ∀ W', Below B0 W W' → Γ W → Γ W') (e : TypeId) (cells : Array Value) (cs : List D) (hl : cells.size = cs.length) (h1 : ∀ (j : Nat) u, cells[j]? = some u → u.oneCell' = true)
    (h : ∀ (j : Nat) u y, cells[j]? = some u → cs[j]? = some y → Rep (Fr F β) W u y) : Rel F Γ B0 W0 N (β ++ [some W.heap.size]) { S with b := S.b ++ [some (e, cs)] } a (W.alloc (.cells cells e)) := by
  have hlt : ∀ b, some b ∈ β → b < W.heap.size := fun b hb => (r.own b hb).2
  have hbl : Below W.heap.size W (W.alloc (.cells cells e)) := (Below.refl _ _).alloc (Nat.le_refl _) _
  have hbe : ∀ (i : Nat) b, β[i]? = some b → (β ++ [some W.heap.size])[i]? = some b := fun i b hi => by rw [List.getElem?_append_left (List.getElem?_eq_some_iff.1 hi).1]; exact hi
  have hk : ∀ k, Fr F β k → k < W.heap.size → Fr F (β ++ [some W.heap.size]) k ∧ (W.alloc (.cells cells e)).heap[k]? = W.heap[k]? := fun k h1 h2 => ⟨⟨h1.1, by simp only [List.mem_append, List.mem_singleton, Option.some.injEq, not_or]; exact ⟨h1.2, by omega⟩⟩, hbl.block k h2⟩
  have hsz : (W.alloc (.cells cells e)).heap.size = W.heap.size + 1 := Array.size_push _
  have hat : ∀ (i b : Nat), (β ++ [some W.heap.size])[i]? = some (some b) → (i < β.length ∧ β[i]? = some (some b)) ∨ (i = β.length ∧ b = W.heap.size) := fun i b hi => by
    by_cases h : i < β.length
    · rw [List.getElem?_append_left h] at hi; exact .inl ⟨h, hi⟩
    · rw [List.getElem?_append_right (by omega)] at hi
      have : i - β.length = 0 := by
        have := (List.getElem?_eq_some_iff.1 hi).1
        simp at this; omega
      rw [this] at hi
      simp only [List.getElem?_cons_zero, Option.some.injEq] at hi
      exact .inr ⟨by omega, hi.symm⟩
  refine ⟨r.below.trans (hbl.mono r.le), by rw [hsz]; have := r.le; omega, hΓ _ (hbl.mono r.le) r.gam, r.foot, r.size, r.defers, ?_, by simp [r.len], ?_, ?_, fun i => (r.slots i).move hbe hk, ?_⟩
  · intro i j b hi hj
    rcases hat i b hi with ⟨_, h1⟩ | ⟨h1, h2⟩ <;> rcases hat j b hj with ⟨_, h3⟩ | ⟨h3, h4⟩
    · exact r.nodup i j b h1 h3
    · have := hlt b (List.mem_of_getElem? h1); omega
    · have := hlt b (List.mem_of_getElem? h3); omega
    · omega
  · intro i x hi
    by_cases h : i < S.b.length
    · rw [List.getElem?_append_left h] at hi
      obtain ⟨b, hb⟩ := r.live i x hi
      exact ⟨b, hbe _ _ hb⟩
    · have h2 := (List.getElem?_eq_some_iff.1 hi).1
      simp only [List.length_append, List.length_singleton] at h2
      refine ⟨W.heap.size, ?_⟩
      rw [List.getElem?_append_right (by rw [r.len]; omega), r.len, show i - S.b.length = 0 by omega]; rfl
  · intro b hb
    simp only [List.mem_append, List.mem_singleton, Option.some.injEq] at hb
    rw [hsz]
    rcases hb with hb | hb
    · have := r.own b hb; omega
    · have := r.le; omega
  · intro i b e' cs' hi hb
    rcases hat i b hi with ⟨h0, h2⟩ | ⟨h0, h2⟩
    · rw [List.getElem?_append_left (by rw [← r.len]; omega)] at hb
      obtain ⟨c', h3, h4, h5, h6⟩ := r.vars i b e' cs' h2 hb
      exact ⟨c', by rw [hbl.block b (hlt b (List.mem_of_getElem? h2))]; exact h3, h4, h5, fun j u y hu hy => (h6 j u y hu hy).move hk⟩
    · subst h0 h2
      rw [r.len, List.getElem?_append_right (Nat.le_refl _)] at hb
      simp only [Nat.sub_self, List.getElem?_cons_zero, Option.some.injEq, Prod.mk.injEq] at hb
      obtain ⟨rfl, rfl⟩ := hb
      exact ⟨cells, by show (W.heap.push _)[W.heap.size]? = _; simp, hl, h1, fun j u y hu hy => ((h j u y hu hy).move hk)⟩
end
def intOp (op : BinOp) (k : IntKind) (x y : Int) : Option Value :=
  match op with
  | .add => some (.int k (k.wrap (x + y)))
  | .sub => some (.int k (k.wrap (x - y)))
  | .mul => some (.int k (k.wrap (x * y)))
  | .quo => if y = 0 then none else some (.int k (k.wrap (x.tdiv y)))
  | .rem => if y = 0 then none else some (.int k (x.tmod y))
  | .and => some (.int k (k.wrap ((BitVec.ofInt k.bits x &&& BitVec.ofInt k.bits y).toNat : Int)))
  | .or => some (.int k (k.wrap ((BitVec.ofInt k.bits x ||| BitVec.ofInt k.bits y).toNat : Int)))
  | .xor => some (.int k (k.wrap ((BitVec.ofInt k.bits x ^^^ BitVec.ofInt k.bits y).toNat : Int)))
  | .eql => some (.bool (x == y))
  | .neq => some (.bool (x != y))
  | .lss => some (.bool (x < y))
  | .leq => some (.bool (x ≤ y))
  | .gtr => some (.bool (x > y))
  | .geq => some (.bool (x ≥ y))
  | _ => none
theorem run_intOp {P : Program} {op : BinOp} {k : IntKind} {x y : Int} {v : Value} (h : intOp op k x y = some v) (t : TypeId) (W : World) (p q : Operand) :
    ((do eqGuard op t p q (.int k x) (.int k y); binOp op t (.int k x) (.int k y) : Sem Value)).run P W = .ok v W := by
  cases op <;> simp only [intOp] at h <;> (try cases h) <;> (try (split at h; · cases h)) <;> (try (injection h with h; subst h))
  all_goals simp_all [eqGuard, binOp, Op.intArith, Op.intCmp, Op.intBits, Op.intDiv, go_sem]
def boolOp (op : BinOp) (x y : Bool) : Option Value :=
  match op with
  | .eql => some (.bool (x == y))
  | .neq => some (.bool (x != y))
  | _ => none
theorem run_equalIn_bool {P : Program} (d : Nat) {t : TypeId} (x y : Bool) (ht : P.underlying t = some .bool) (W : World) : (Op.equalIn (d + 1) t (.bool x) (.bool y)).run P W = .ok (x == y) W := by
  simp only [Op.equalIn, run_underlying ht]
  simp [Op.equalIn, run_underlying ht]
theorem run_boolOp {P : Program} {op : BinOp} {x y : Bool} {v : Value} (h : boolOp op x y = some v) (t : TypeId) (ht : P.underlying t = some .bool) (W : World) (p q : Operand) :
    ((do eqGuard op t p q (.bool x) (.bool y); binOp op t (.bool x) (.bool y) : Sem Value)).run P W = .ok v W := by
  have he : (Op.equal t (.bool x) (.bool y)).run P W = .ok (x == y) W := run_equalIn_bool 9999 x y ht W
  cases op <;> simp only [boolOp] at h <;> (try cases h)
  all_goals simp only [eqGuard, binOp]
  all_goals simp [he, bne]
end Go.Proofs.YtijebgceopddmaaDoor.Ax
end
section
set_option linter.unusedVariables false
set_option linter.unusedSimpArgs false
namespace Go.Proofs.YtijebgceopddmaaDoor.Ax
open Go.RowKit
def szOf (P : Program) (t : TypeId) : Nat := match P.info? t with | some i => i.size | none => 0
def bytesOf (P : Program) (t : TypeId) : Nat := match P.info? t with | some i => i.bytes | none => 0
def zeroOf (P : Program) (t : TypeId) : Option Value := match P.info? t with | some i => i.zero | none => none
def rowT (P : Program) (t : TypeId) : Option Bool := match P.underlying t with
 | some (.struct _) | some (.array _ _) => some true
 | some _ => some false
 | none => none
def elemT (P : Program) (t : TypeId) : Option TypeId := match P.underlying t with
 | some (.slice e) => some e
 | _ => none
def offT (P : Program) (t : TypeId) (f : Nat) : Option (Nat × TypeId) := match P.underlying t with
 | some (.struct fs) => (fs[f]?).bind fun x => if szOf P x.type = 0 then none else some (x.offset, x.type)
 | _ => none
def over {α : Type} (cs : List α) (o : Nat) (ds : List α) : List α := cs.take o ++ ds ++ cs.drop (o + ds.length)
def D.known : D → Bool
 | .any => false
 | _ => true
def D.one : D → Bool
 | .val _ | .sl _ _ => true
 | _ => false
def toD : T → D
 | .d x => x
 | _ => .any
def Wide (sz : Nat) (xs : List D) : Prop := ∀ x, x ∈ xs → x.cells.length = sz
def Ones (xs : List D) : Prop := ∀ x, x ∈ xs → ∀ y, y ∈ x.cells → y.one = true
def bound (S : St) (d : Nat) : Option Operand → Option Int
 | none => some d
 | some q => match S.eval q with
  | .d (.val (.int _ n)) => some n
  | _ => none
variable (P : Program) (C : FuncId → List T → T → Prop)
def awpLoad (t : TypeId) (p : T) (S : St) (K : T → St → Prop) : Prop :=
 match rowT P t, p with
 | some true, .ptr i off => ∃ e cs, S.b[i]? = some (some (e, cs)) ∧ 0 < szOf P t ∧ off + szOf P t ≤ cs.length ∧ K (.d (.agg ((cs.drop off).take (szOf P t)))) S
 | some false, .ptr i off => ∃ e cs y, S.b[i]? = some (some (e, cs)) ∧ cs[off]? = some y ∧ K (.d y) S
 | some false, .eptr x => x.cells = [x] ∧ K (.d x) S
 | some true, .eptr (.agg cs) => cs.length = szOf P t ∧ 0 < szOf P t ∧ (∀ y, y ∈ cs → y.one = true) ∧ K (.d (.agg cs)) S
 | _, _ => False
def awpIndex (t : TypeId) (x i : T) (S : St) (K : T → St → Prop) : Prop :=
 match P.underlying t, x, i with
 | some (.slice e), .d (.sl ex xs), .d (.val (.int k n)) => 0 ≤ n ∧ n < xs.length ∧ Wide (szOf P e) xs ∧ 0 < szOf P e ∧ K (.eptr (xs.getD n.toNat .any)) S
 | some (.array l e), .ptr j off, .d (.val (.int k n)) => 0 ≤ n ∧ n < l ∧ 0 < szOf P e ∧ (∃ lv, S.b[j]? = some (some lv)) ∧ K (.ptr j (off + n.toNat * szOf P e)) S
 | some (.slice e), .row j m c, .d (.val (.int k n)) => 0 ≤ n ∧ n < m ∧ szOf P e = 1 ∧ (∃ lv, S.b[j]? = some (some lv)) ∧ K (.ptr j n.toNat) S
 | _, _, _ => False
def awpAppend (as_ : Array Operand) (ts : Array TypeId) (S : St) (K : T → St → Prop) : Prop :=
 (∃ x y t e z xs ex ys, as_ = #[x, y] ∧ ts = #[t, t] ∧ elemT P t = some e ∧ zeroOf P e = some z ∧ S.eval x = .d (.sl true xs) ∧ S.eval y = .d (.sl ex ys) ∧ 0 < szOf P e ∧ Wide (szOf P e) xs ∧ Wide (szOf P e) ys ∧ Ones xs ∧ Ones ys ∧ 0 < ys.length ∧ ((xs.length + ys.length : Nat) : Int) ≤ 9223372036854775807 ∧ Builtin.nextslicecap (xs.length + ys.length) xs.length * bytesOf P e ≤ 281474976710656 ∧ K (.d (.sl false (xs ++ ys))) S) ∨
 (∃ x y t e z xs ex ys, as_ = #[x, y] ∧ ts = #[t, t] ∧ elemT P t = some e ∧ zeroOf P e = some z ∧ S.eval x = .d (.sl true xs) ∧ S.eval y = .d (.sl ex ys) ∧ szOf P e = 1 ∧ (∀ q, q ∈ xs → q.one = true) ∧ (∀ q, q ∈ ys → q.one = true) ∧ 0 < ys.length ∧ ((xs.length + ys.length : Nat) : Int) ≤ 9223372036854775807 ∧ 2 * (xs.length + ys.length) * bytesOf P e ≤ 281474976710656 ∧ z.oneCell' = true ∧
  ∀ c' sp', xs.length + ys.length + sp'.length = c' → K (.row S.b.length (xs.length + ys.length) c') { S with b := S.b ++ [some (e, xs ++ ys ++ sp')] }) ∨
 (∃ x y t e z i n c xs sp ex ys, as_ = #[x, y] ∧ ts = #[t, t] ∧ elemT P t = some e ∧ zeroOf P e = some z ∧ S.eval x = .row i n c ∧ S.b[i]? = some (some (e, xs ++ sp)) ∧ xs.length = n ∧ n + sp.length = c ∧ S.eval y = .d (.sl ex ys) ∧ szOf P e = 1 ∧ (∀ q, q ∈ ys → q.one = true) ∧ 0 < ys.length ∧ ((n + ys.length : Nat) : Int) ≤ 9223372036854775807 ∧ 2 * (n + ys.length) * bytesOf P e ≤ 281474976710656 ∧ z.oneCell' = true ∧
  ∀ (j c' : Nat) (sp' : List D) (b' : List (Option (TypeId × List D))), b'[j]? = some (some (e, xs ++ ys ++ sp')) → n + ys.length + sp'.length = c' → (∀ k, k ≠ i → k < S.b.length → b'[k]? = S.b[k]?) → K (.row j (n + ys.length) c') { S with b := b' })
def awpBuiltin (b : Builtin) (as_ : Array Operand) (ts : Array TypeId) (S : St) (K : T → St → Prop) : Prop :=
 match b with
 | .len => match ts[0]?, (as_[0]?).map S.eval with
  | some t, some (.d (.sl _ xs)) => (elemT P t).isSome = true ∧ ((xs.length : Int) ≤ 9223372036854775807 → K (.d (.val (.int .i64 xs.length))) S)
  | some t, some (.row i n c) => (elemT P t).isSome = true ∧ (∃ lv, S.b[i]? = some (some lv)) ∧ ((n : Int) ≤ 9223372036854775807 → K (.d (.val (.int .i64 n))) S)
  | _, _ => False
 | .append => awpAppend P as_ ts S K
 | _ => False
def awpOp (o : Oper) (S : St) (K : T → St → Prop) : Prop :=
 match o.op with
 | .move x => K (S.eval x) S
 | .assign x => K (S.eval x) S
 | .pick c x y => match S.eval c with
  | .d (.val (.bool b)) => K (if b then S.eval x else S.eval y) S
  | _ => False
 | .extract x i => match S.eval x with
  | .tup ts => match ts[i]? with
   | some t => K (.d t) S
   | none => False
  | _ => False
 | .binOp op t x y _ => match S.eval x, S.eval y with
  | .d (.val (.int k m)), .d (.val (.int k' n)) => k = k' ∧ ∃ v, intOp op k m n = some v ∧ K (.d (.val v)) S
  | .d (.val (.bool m)), .d (.val (.bool n)) => P.underlying t = some .bool ∧ ∃ v, boolOp op m n = some v ∧ K (.d (.val v)) S
  | _, _ => False
 | .unOp .not _ x => match S.eval x with
  | .d (.val (.bool b)) => K (.d (.val (.bool !b))) S
  | _ => False
 | .buildSlice t n ps => match elemT P t with
  | some e => (zeroOf P e).isSome = true ∧ 0 < szOf P e ∧ ps.toList.map (·.1) = List.range n ∧ n * szOf P e ≤ 16777216 ∧ ((ps.toList.map fun p => toD (S.eval p.2)).all fun x => x.known && x.cells.length == szOf P e) = true ∧ K (.d (.sl true (ps.toList.map fun p => toD (S.eval p.2)))) S
  | none => False
 | .makeSlice t l c => match elemT P t, S.eval l, S.eval c with
  | some e, .d (.val (.int .i64 n)), .d (.val (.int .i64 m)) => m = n ∧ ∃ z, zeroOf P e = some z ∧ 0 < szOf P e ∧ z.cells.size = szOf P e ∧ (ofV z).known = true ∧ (ofV z).cells.length = szOf P e ∧ 0 ≤ n ∧ n ≤ 9223372036854775807 ∧ bytesOf P e * n ≤ 140737488355328 ∧ (K (.d (.sl true (List.replicate n.toNat (ofV z)))) S ∨ (szOf P e = 1 ∧ (ofV z).one = true ∧ K (.row S.b.length n.toNat n.toNat) { S with b := S.b ++ [some (e, List.replicate n.toNat (ofV z))] }))
  | _, _, _ => False
 | .alloc t => match zeroOf P t with
  | some z => (z.cells.all (·.oneCell')) = true ∧ K (.ptr S.b.length 0) { S with b := S.b ++ [some (t, z.cells.toList.map ofV1)] }
  | none => False
 | .box t x => match S.eval x with
  | .d y => y.known = true ∧ K (.ptr S.b.length 0) { S with b := S.b ++ [some (t, y.cells)] }
  | _ => False
 | .store t p x => match S.eval p, S.eval x with
  | .ptr i off, .d y => ∃ e cs, S.b[i]? = some (some (e, cs)) ∧ y.known = true ∧ y.cells.length = szOf P t ∧ 0 < szOf P t ∧ off + y.cells.length ≤ cs.length ∧ K (.d .any) { S with b := S.b.set i (some (e, over cs off y.cells)) }
  | _, _ => False
 | .load t p => awpLoad P t (S.eval p) S K
 | .fieldAddr t x f => match offT P t f, S.eval x with
  | some (q, _), .ptr i off => (∃ lv, S.b[i]? = some (some lv)) ∧ K (.ptr i (off + q)) S
  | _, _ => False
 | .indexAddr t x i => awpIndex P t (S.eval x) (S.eval i) S K
 | .slice t x lo hi mx => match elemT P t, S.eval x with
  | some e, .d (.sl ex xs) => ∃ l h : Nat, bound S 0 lo = some (l : Int) ∧ bound S xs.length hi = some (h : Int) ∧ (mx.isSome = true → hi.isSome = true ∧ bound S 0 mx = some (h : Int)) ∧ l ≤ h ∧ h ≤ xs.length ∧ 0 < szOf P e ∧ Wide (szOf P e) xs ∧ K (.d (.sl (mx.isSome || (ex && h == xs.length)) ((xs.take h).drop l))) S
  | _, _ => False
 | .call c => match c.callee with
  | .value (.func f) => ∃ r, C f (c.args.toList.map S.eval) r ∧ K r S
  | .builtin b => awpBuiltin P b c.args c.argTypes S K
  | _ => False
 | _ => False
end Go.Proofs.YtijebgceopddmaaDoor.Ax
end
section
set_option linter.unusedVariables false
set_option linter.unusedSimpArgs false
namespace Go.Proofs.YtijebgceopddmaaDoor.Ax
open Go.RowKit
def RepR (ok : Nat → Prop) (W : World) (v : Value) : T → Prop
 | .d x => Rep ok W v x
 | .tup ts => ∃ vs : Array Value, v = .tuple vs ∧ vs.size = ts.length ∧ ∀ (i : Nat) u y, vs[i]? = some u → ts[i]? = some y → Rep ok W u y
 | _ => False
def Spec (P : Program) (Γ : World → Prop) (f : FuncId) (ts : List T) (r : T) : Prop :=
 (∃ fn : Func, P.funcs[f]? = some fn ∧ (fn.name == "runtime.NumGoroutine") = false ∧ fn.body.isSome = true) ∧ ∃ ds : List D, ts = ds.map T.d ∧ ∀ (ok : Nat → Prop) (W : World) (vs : List Value), Γ W → vs.length = ds.length → (∀ (i : Nat) v x, vs[i]? = some v → ds[i]? = some x → Rep ok W v x) →
  Calls P f vs.toArray W fun e W' => ∃ v, e = .returned v ∧ RepR (fun k => ok k ∨ W.heap.size ≤ k) W' v r ∧ Below W.heap.size W W'
theorem rep_int {ok : Nat → Prop} {W : World} {v u : Value} (h : Rep ok W v (.val u)) : v = u := by cases h; rfl
section
variable {P : Program} {C : FuncId → List T → T → Prop} {F : Nat → Prop} {Γ : World → Prop} {B0 N : Nat} {W0 W : World} {β : List (Option Nat)} {S : St} {a : Act} {o : Oper} {K : T → St → Prop} {Kc : Act → World → Prop} {Q : Exit → Act → World → Prop}
theorem opv {v : Value} {W' : World} (hrun : (execOp a.eval o).run P W = .ok (.value v) W') (h : Kc (a.put o.dst v) W') : o.wp P a W Kc Q := by
 unfold Oper.wp; rw [hrun]; exact h
theorem ops {W' : World} (hrun : (execOp a.eval o).run P W = .ok .skip W') (h : Kc (a.put o.dst undef) W') : o.wp P a W Kc Q := by
 unfold Oper.wp; rw [hrun]; exact h
theorem Rel.val (r : Rel F Γ B0 W0 N β S a W) {x : Operand} {u : Value} (h : S.eval x = .d (.val u)) : a.eval x = u := by
 have := r.eval x; rw [h] at this; exact rep_int this
theorem elemT_some {t e : TypeId} (h : elemT P t = some e) : P.underlying t = some (.slice e) := by
 unfold elemT at h; split at h
 ·injection h with h; subst h; assumption
 ·cases h
theorem info_of {t : TypeId} {z : Value} (h : zeroOf P t = some z) : ∃ i, P.info? t = some i ∧ i.zero = some z ∧ szOf P t = i.size ∧ bytesOf P t = i.bytes := by
 unfold zeroOf at h
 cases hi : P.info? t with
 | none => simp [hi] at h
 | some i => simp only [hi] at h; exact ⟨i, rfl, h, by simp [szOf, hi], by simp [bytesOf, hi]⟩
theorem info_sz {t : TypeId} (h : 0 < szOf P t) : ∃ i, P.info? t = some i ∧ szOf P t = i.size := by
 unfold szOf at h ⊢
 cases hi : P.info? t with
 | none => simp [hi] at h
 | some i => exact ⟨i, rfl, by simp⟩
theorem s_move {x : Operand} (ho : o.op = .move x) (h : K (S.eval x) S) (r : Rel F Γ B0 W0 N β S a W) (hK : ∀ t S' β' v W', K t S' → Rel F Γ B0 W0 N β' S' a W' → RepT F β' W' v t → Kc (a.put o.dst v) W') : o.wp P a W Kc Q :=
 opv (v := a.eval x) (W' := W) (by simp [execOp, ho]) (hK _ _ _ _ _ h r (r.eval x))
theorem s_assign {x : Operand} (ho : o.op = .assign x) (h : K (S.eval x) S) (r : Rel F Γ B0 W0 N β S a W) (hK : ∀ t S' β' v W', K t S' → Rel F Γ B0 W0 N β' S' a W' → RepT F β' W' v t → Kc (a.put o.dst v) W') : o.wp P a W Kc Q :=
 opv (v := a.eval x) (W' := W) (by simp [execOp, ho]) (hK _ _ _ _ _ h r (r.eval x))
theorem s_pick {c x y : Operand} {b : Bool} (ho : o.op = .pick c x y) (hc : S.eval c = .d (.val (.bool b))) (h : K (if b then S.eval x else S.eval y) S) (r : Rel F Γ B0 W0 N β S a W) (hK : ∀ t S' β' v W', K t S' → Rel F Γ B0 W0 N β' S' a W' → RepT F β' W' v t → Kc (a.put o.dst v) W') : o.wp P a W Kc Q := by
 have e := r.val hc
 refine opv (v := if b then a.eval x else a.eval y) (W' := W) (by simp [execOp, ho, e, asBool]) (hK _ _ _ _ _ h r ?_)
 cases b
 ·exact r.eval y
 ·exact r.eval x
theorem s_extract {x : Operand} {i : Nat} {ts : List D} {t : D} (ho : o.op = .extract x i) (hx : S.eval x = .tup ts) (hi : ts[i]? = some t) (h : K (.d t) S) (r : Rel F Γ B0 W0 N β S a W) (hK : ∀ t S' β' v W', K t S' → Rel F Γ B0 W0 N β' S' a W' → RepT F β' W' v t → Kc (a.put o.dst v) W') : o.wp P a W Kc Q := by
 have e := r.eval x
 rw [hx] at e
 obtain ⟨vs, e1, e2, e3⟩ := e
 have hlt : i < vs.size := by rw [e2]; exact (List.getElem?_eq_some_iff.1 hi).1
 refine opv (v := vs[i]) (W' := W) (by simp [execOp, ho, e1, Instr.extract, Array.getElem?_eq_getElem hlt]) (hK _ _ _ _ _ h r ?_)
 exact e3 i _ _ (Array.getElem?_eq_getElem hlt) hi
theorem s_int {op : BinOp} {t yt : TypeId} {x y : Operand} {k : IntKind} {m n : Int} {v : Value} (ho : o.op = .binOp op t x y yt) (hx : S.eval x = .d (.val (.int k m))) (hy : S.eval y = .d (.val (.int k n))) (hv : intOp op k m n = some v) (h : K (.d (.val v)) S) (r : Rel F Γ B0 W0 N β S a W) (hK : ∀ t S' β' v W', K t S' → Rel F Γ B0 W0 N β' S' a W' → RepT F β' W' v t → Kc (a.put o.dst v) W') : o.wp P a W Kc Q := by
 refine opv (v := v) (W' := W) ?_ (hK _ _ _ _ _ h r (Rep.val _ ?_))
 ·have := run_intOp (P := P) hv t W x y
  simp only [execOp, ho, r.val hx, r.val hy]
  rw [Sem.run_bind, this]; rfl
 ·cases op <;> simp only [intOp] at hv <;> (try cases hv) <;> (try (split at hv; · cases hv)) <;> (try (injection hv with hv; subst hv)) <;> rfl
theorem s_bool {op : BinOp} {t yt : TypeId} {x y : Operand} {m n : Bool} {v : Value} (ho : o.op = .binOp op t x y yt) (ht : P.underlying t = some .bool) (hx : S.eval x = .d (.val (.bool m))) (hy : S.eval y = .d (.val (.bool n))) (hv : boolOp op m n = some v) (h : K (.d (.val v)) S) (r : Rel F Γ B0 W0 N β S a W) (hK : ∀ t S' β' v W', K t S' → Rel F Γ B0 W0 N β' S' a W' → RepT F β' W' v t → Kc (a.put o.dst v) W') : o.wp P a W Kc Q := by
 refine opv (v := v) (W' := W) ?_ (hK _ _ _ _ _ h r (Rep.val _ ?_))
 ·have := run_boolOp (P := P) hv t ht W x y
  simp only [execOp, ho, r.val hx, r.val hy]
  rw [Sem.run_bind, this]; rfl
 ·cases op <;> simp only [boolOp] at hv <;> (try cases hv) <;> rfl
theorem s_not {t : TypeId} {x : Operand} {b : Bool} (ho : o.op = .unOp .not t x) (hx : S.eval x = .d (.val (.bool b))) (h : K (.d (.val (.bool !b))) S) (r : Rel F Γ B0 W0 N β S a W) (hK : ∀ t S' β' v W', K t S' → Rel F Γ B0 W0 N β' S' a W' → RepT F β' W' v t → Kc (a.put o.dst v) W') : o.wp P a W Kc Q :=
 opv (v := .bool !b) (W' := W) (by simp [execOp, ho, r.val hx, Op.unary]) (hK _ _ _ _ _ h r (Rep.val _ rfl))
theorem s_len {as_ : Array Operand} {ts : Array TypeId} {t : TypeId} {x : Operand} {ex : Bool} {xs : List D} (ho : o.op = .call { callee := .builtin .len, args := as_, argTypes := ts }) (h1 : ts[0]? = some t) (h2 : as_[0]? = some x) (hx : S.eval x = .d (.sl ex xs)) (ht : (elemT P t).isSome = true) (h : (xs.length : Int) ≤ 9223372036854775807 → K (.d (.val (.int .i64 xs.length))) S) (r : Rel F Γ B0 W0 N β S a W) (hK : ∀ t S' β' v W', K t S' → Rel F Γ B0 W0 N β' S' a W' → RepT F β' W' v t → Kc (a.put o.dst v) W') : o.wp P a W Kc Q := by
 obtain ⟨e, he⟩ := Option.isSome_iff_exists.1 ht
 have hu := elemT_some he
 have hr := r.eval x
 rw [hx] at hr
 generalize hev : a.eval x = v at hr
 cases hr with
 | sl _ A c sz _ ad hc hm hex hA hs hok hh =>
  refine opv (v := .int .i64 xs.length) (W' := W) ?_ (hK _ _ _ _ _ (h (by omega)) r (Rep.val _ rfl))
  simp [execOp, ho, resolve, invoke, builtin, Builtin.len_, h1, h2, hev, run_underlying hu, goInt]
end
end Go.Proofs.YtijebgceopddmaaDoor.Ax
end
section
set_option linter.unusedVariables false
set_option linter.unusedSimpArgs false
namespace Go.Proofs.YtijebgceopddmaaDoor.Ax
open Go.RowKit
theorem setAll (off : Nat) : ∀ (l : List Value) (s : Nat) (cells : Array Value), off + s + l.length ≤ cells.size →
  ((l.zipIdx s).foldl (fun cs (p : Value × Nat) => cs.setIfInBounds (off + p.2) p.1) cells).size = cells.size ∧
  (∀ (j : Nat) u, l[j]? = some u → ((l.zipIdx s).foldl (fun cs (p : Value × Nat) => cs.setIfInBounds (off + p.2) p.1) cells)[off + s + j]? = some u) ∧
  (∀ q, q < off + s ∨ off + s + l.length ≤ q → ((l.zipIdx s).foldl (fun cs (p : Value × Nat) => cs.setIfInBounds (off + p.2) p.1) cells)[q]? = cells[q]?)
 | [], s, cells, h => ⟨rfl, fun j u hu => by simp at hu, fun q _ => rfl⟩
 | v :: l, s, cells, h => by
  simp only [List.length_cons] at h
  obtain ⟨h1, h2, h3⟩ := setAll off l (s + 1) (cells.setIfInBounds (off + s) v) (by simp; omega)
  simp only [List.zipIdx_cons, List.foldl_cons]
  refine ⟨by rw [h1]; simp, fun j u hu => ?_, fun q hq => ?_⟩
  ·cases j with
   | zero =>
    simp only [List.getElem?_cons_zero, Option.some.injEq] at hu
    subst hu
    rw [h3 _ (.inl (by omega)), Nat.add_zero, Array.getElem?_setIfInBounds]
    simp; omega
   | succ j =>
    have := h2 j u (by simpa using hu)
    rw [show off + s + (j + 1) = off + (s + 1) + j by omega]; exact this
  ·simp only [List.length_cons] at hq
   rw [h3 q (by omega), Array.getElem?_setIfInBounds, if_neg (by omega)]
theorem fill_spec (sz : Nat) : ∀ (vs : List Value) (k : Nat) (cells : Array Value), (∀ v, v ∈ vs → v.cells.size = sz) → (k + vs.length) * sz ≤ cells.size →
  ∃ cells', Instr.fill (fun i => some (i * sz, sz)) cells ((List.range' k vs.length).zip vs) = some cells' ∧ cells'.size = cells.size ∧
   (∀ (i j : Nat) v u, vs[i]? = some v → v.cells[j]? = some u → cells'[(k + i) * sz + j]? = some u) ∧ (∀ q, q < k * sz → cells'[q]? = cells[q]?)
 | [], k, cells, h1, h2 => ⟨cells, rfl, rfl, fun i j v u hv => by simp at hv, fun q _ => rfl⟩
 | v :: vs, k, cells, h1, h2 => by
  simp only [List.length_cons] at h2
  have hv : v.cells.size = sz := h1 v (by simp)
  have hm : (k + (vs.length + 1)) * sz = k * sz + sz + vs.length * sz := by rw [Nat.add_mul, Nat.add_mul]; omega
  obtain ⟨s1, s2, s3⟩ := setAll (k * sz) v.cells.toList 0 cells (by simp [hv]; omega)
  obtain ⟨cells', e, z1, z2, z3⟩ := fill_spec sz vs (k + 1) (v.cells.zipIdx.foldl (fun cs (p : Value × Nat) => cs.setIfInBounds (k * sz + p.2) p.1) cells) (fun u hu => h1 u (by simp [hu])) (by
   rw [← Array.foldl_toList, Array.toList_zipIdx, s1, Nat.add_mul, Nat.add_mul]; omega)
  rw [← Array.foldl_toList, Array.toList_zipIdx] at e z1 z3
  refine ⟨cells', ?_, by rw [z1, s1], fun i j u x hu hx => ?_, fun q hq => ?_⟩
  ·simp only [List.length_cons, List.range'_succ, List.zip_cons_cons, Instr.fill]
   rw [if_neg (by simp [hv]; omega), ← Array.foldl_toList, Array.toList_zipIdx]
   exact e
  ·have hj : j < sz := by
    have hxs := (Array.getElem?_eq_some_iff.1 hx).1
    have : u.cells.size = sz := h1 u (List.mem_of_getElem? hu)
    omega
   cases i with
   | zero =>
    simp only [List.getElem?_cons_zero, Option.some.injEq] at hu
    subst hu
    rw [Nat.add_zero, z3 _ (by rw [Nat.add_mul]; omega)]
    have := s2 j x (by simpa using hx)
    simpa using this
   | succ i =>
    have := z2 i j u x (by simpa using hu) hx
    rw [show k + (i + 1) = k + 1 + i by omega]; exact this
  ·rw [z3 q (by rw [Nat.add_mul]; omega), s3 q (.inl (by omega))]
theorem cell_new (W : World) (cells : Array Value) (e : TypeId) (k : Nat) : (W.alloc (.cells cells e)).cell? ⟨W.heap.size, k, none⟩ = cells[k]? := by
 have : (W.alloc (.cells cells e)).heap[W.heap.size]? = some (.cells cells e) := by show (W.heap.push _)[W.heap.size]? = _; simp
 simp only [World.cell?, this]; rfl
section
variable {P : Program} {C : FuncId → List T → T → Prop} {F : Nat → Prop} {Γ : World → Prop} {B0 N : Nat} {W0 W : World} {β : List (Option Nat)} {S : St} {a : Act} {o : Oper} {K : T → St → Prop} {Kc : Act → World → Prop} {Q : Exit → Act → World → Prop}
theorem Rel.row (r : Rel F Γ B0 W0 N β S a W) (hΓ : ∀ W', Below B0 W W' → Γ W → Γ W') (e : TypeId) (cells : Array Value) (xs : List D) (sz c : Nat) (ex : Bool) (hs : ∀ x, x ∈ xs → x.cells.length = sz) (hl : xs.length * sz ≤ cells.size) (hc : xs.length ≤ c) (hm : xs.length ≤ 9223372036854775807) (hex : ex = true → c = xs.length)
  (h : ∀ (i j : Nat) x y u, xs[i]? = some x → x.cells[j]? = some y → cells[i * sz + j]? = some u → Rep (Fr F β) W u y) :
  Rel F Γ B0 W0 N β S a (W.alloc (.cells cells e)) ∧ RepT F β (W.alloc (.cells cells e)) (.slice (some ⟨W.heap.size, 0, none⟩) xs.length c) (.d (.sl ex xs)) := by
 have hbl : Below W.heap.size W (W.alloc (.cells cells e)) := (Below.refl _ _).alloc (Nat.le_refl _) _
 have hin : ∀ (i j : Nat) (x y : D), xs[i]? = some x → x.cells[j]? = some y → i * sz + j < cells.size := fun i j x y hx hy => by
  have h1 := (List.getElem?_eq_some_iff.1 hx).1
  have h2 := (List.getElem?_eq_some_iff.1 hy).1
  rw [hs x (List.mem_of_getElem? hx)] at h2
  have h3 : (i + 1) * sz ≤ xs.length * sz := Nat.mul_le_mul_right _ h1
  rw [Nat.add_mul] at h3
  omega
 have hadd : ∀ n, (⟨W.heap.size, 0, none⟩ : Addr).add n = ⟨W.heap.size, n, none⟩ := fun n => by unfold Addr.add; split <;> simp_all
 refine ⟨r.step hbl (hΓ _ (hbl.mono r.le) r.gam), Rep.sl ex _ c sz xs ⟨W.heap.size, 0, none⟩ hc hm hex (fun _ => rfl) (fun i x hx => hs x (List.mem_of_getElem? hx)) (fun i j x y hx hy => ⟨⟨r.foot _ r.le, fun hb => ?_⟩, ?_⟩) (fun i j x y u hx hy hu => ?_)⟩
 ·have h5 := r.own _ hb; simp only at h5; omega
 ·rw [hadd, cell_new, Array.getElem?_eq_getElem (hin i j x y hx hy)]; rfl
 ·rw [hadd, cell_new] at hu
  exact (h i j x y u hx hy hu).move fun k h1 h2 => ⟨h1, hbl.block k h2⟩
theorem rep_cells {ok : Nat → Prop} {v : Value} {x : D} (h : Rep ok W v x) (hx : x ≠ .any) : v.cells.size = x.cells.length ∧ (∀ (j : Nat) u, v.cells[j]? = some u → u.oneCell' = true) ∧ ∀ (j : Nat) u y, v.cells[j]? = some u → x.cells[j]? = some y → Rep ok W u y := by
 have key : ∀ (v : Value) (x : D), v.cells = #[v] → v.oneCell' = true → x.cells = [x] → Rep ok W v x → v.cells.size = x.cells.length ∧ (∀ (j : Nat) u, v.cells[j]? = some u → u.oneCell' = true) ∧ ∀ (j : Nat) u y, v.cells[j]? = some u → x.cells[j]? = some y → Rep ok W u y := fun v x h1 h2 h3 h4 => by
  rw [h1, h3]
  refine ⟨rfl, fun j u hu => ?_, fun j u y hu hy => ?_⟩
  ·cases j with
   | zero => simp at hu; subst hu; exact h2
   | succ j => simp at hu
  ·cases j with
   | zero => simp at hu hy; subst hu hy; exact h4
   | succ j => simp at hu
 cases h with
 | any v => exact absurd rfl hx
 | val v h => exact key _ _ (by cases v <;> simp_all [Value.cells, Value.oneCell']) h rfl (.val v h)
 | sl ex A c sz xs ad hc hm hex hA hs hok hh => exact key _ _ rfl rfl rfl (.sl ex A c sz xs ad hc hm hex hA hs hok hh)
 | agg vs cs hl h1 hh => exact ⟨hl, h1, hh⟩
theorem s_buildSlice {t : TypeId} {n : Nat} {ps : Array (Nat × Operand)} {e : TypeId} {z : Value} {xs : List D} (hΓ : ∀ W', Below B0 W W' → Γ W → Γ W') (ho : o.op = .buildSlice t n ps) (he : elemT P t = some e) (hz : zeroOf P e = some z) (hsz : 0 < szOf P e) (hi : ps.toList.map (·.1) = List.range n) (hn : n * szOf P e ≤ 16777216)
  (hps : ps.toList.map (fun p => S.eval p.2) = xs.map T.d) (hx : ∀ x, x ∈ xs → x.cells.length = szOf P e) (hany : ∀ x, x ∈ xs → x ≠ .any) (h : K (.d (.sl true xs)) S) (r : Rel F Γ B0 W0 N β S a W) (hK : ∀ t S' β' v W', K t S' → Rel F Γ B0 W0 N β' S' a W' → RepT F β' W' v t → Kc (a.put o.dst v) W') : o.wp P a W Kc Q := by
 have hu := elemT_some he
 obtain ⟨i, hinf, hzi, hsi, _⟩ := info_of hz
 have hxl : xs.length = n := by have := congrArg List.length hps; have h2 := congrArg List.length hi; simp at this h2; omega
 have hval : ∀ (k : Nat) p x, ps.toList[k]? = some p → xs[k]? = some x → Rep (Fr F β) W (a.eval p.2) x := fun k p x hp hx' => by
  have h1 := congrArg (fun l : List T => l[k]?) hps
  simp only [List.getElem?_map, hp, hx', Option.map_some, Option.some.injEq] at h1
  have := r.eval p.2
  rw [h1] at this; exact this
 let vs := ps.toList.map fun p => a.eval p.2
 have hvl : vs.length = n := by simp [vs]; have h2 := congrArg List.length hi; simp at h2; exact h2
 have hzip : (ps.map (fun p => (p.1, a.eval p.2))).toList = (List.range' 0 vs.length).zip vs := by
  rw [hvl, ← List.range_eq_range', ← hi, Array.toList_map]
  show _ = (ps.toList.map (·.1)).zip (ps.toList.map fun p => a.eval p.2)
  rw [List.zip_map']
 have hcell : ∀ (k : Nat) v x, vs[k]? = some v → xs[k]? = some x → Rep (Fr F β) W v x := fun k v x hv hx' => by
  simp only [vs, List.getElem?_map, Option.map_eq_some_iff] at hv
  obtain ⟨p, hp, rfl⟩ := hv
  exact hval k p x hp hx'
 have hvs : ∀ v, v ∈ vs → v.cells.size = szOf P e := fun v hv => by
  obtain ⟨k, hk, hkv⟩ := List.getElem_of_mem hv
  have hkx : k < xs.length := by omega
  have hr := hcell k v xs[k] (by rw [List.getElem?_eq_getElem hk, hkv]) (List.getElem?_eq_getElem hkx)
  rw [(rep_cells hr (hany _ (List.getElem_mem hkx))).1, hx _ (List.getElem_mem hkx)]
 obtain ⟨cells, hf, hcs, hc1, _⟩ := fill_spec (szOf P e) vs 0 ((Array.range (n * szOf P e)).map (fun q => (if n * szOf P e = 0 then #[] else z.cells)[q % (if n * szOf P e = 0 then #[] else z.cells).size]!)) hvs (by simp [hvl])
 have hrow := r.row hΓ e cells xs (szOf P e) n true hx (by rw [hcs]; simp [hxl]) (by omega) (by have := Nat.le_mul_of_pos_right n hsz; omega) (fun _ => hxl.symm) (fun i' j x y u hx' hy hu => by
  obtain ⟨v, hv⟩ : ∃ v, vs[i']? = some v := ⟨vs[i']'(by have := (List.getElem?_eq_some_iff.1 hx').1; omega), List.getElem?_eq_getElem _⟩
  have hr := hcell i' v x hv hx'
  obtain ⟨k1, k2, k3⟩ := rep_cells hr (hany _ (List.mem_of_getElem? hx'))
  have hj : j < v.cells.size := by rw [k1]; exact (List.getElem?_eq_some_iff.1 hy).1
  have := hc1 i' j v _ hv (Array.getElem?_eq_getElem hj)
  rw [Nat.zero_add, hu] at this
  injection this with this
  exact k3 j u y (by rw [Array.getElem?_eq_getElem hj, this]) hy)
 rw [hxl] at hrow
 refine opv (v := .slice (some ⟨W.heap.size, 0, none⟩) n n) (W' := W.alloc (.cells cells e)) ?_ (hK _ _ _ _ _ h hrow.1 hrow.2)
 rw [hsi] at hf hn
 have hf' : Instr.fill (fun i_1 => some (i_1 * i.size, i.size)) ((Array.range (n * i.size)).map (fun q => (if n * i.size = 0 then #[] else z.cells)[q % (if n * i.size = 0 then #[] else z.cells).size]!)) (ps.map (fun p => (p.1, a.eval p.2))).toList = some cells := by rw [hzip]; exact hf
 simp only [execOp, ho, Instr.buildSlice]
 by_cases h0 : n * i.size = 0
 ·simp only [h0, if_true] at hf'
  simp [run_underlying hu, sizeOf, typeInfo, hinf, zeroValue, hzi, h0, newRow, newObj]
  have hq : Instr.fill (fun i_1 => some (i_1 * i.size, i.size)) (Array.map (fun x => default) (Array.range 0)) (List.map (fun x => (x.fst, a.eval x.snd)) ps.toList) = some cells := by simpa using hf'
  rw [hq]; rfl
 ·simp only [h0, if_false] at hf'
  simp [run_underlying hu, sizeOf, typeInfo, hinf, zeroValue, hzi, h0, newRow, newObj]
  rw [if_neg (by omega)]
  have hq : Instr.fill (fun i_1 => some (i_1 * i.size, i.size)) (Array.map (fun x => z.cells[x % z.cells.size]!) (Array.range (n * i.size))) (List.map (fun x => (x.fst, a.eval x.snd)) ps.toList) = some cells := by simpa using hf'
  rw [hq]; rfl
theorem zeros_at (zs : Array Value) (n i j : Nat) (hz : 0 < zs.size) (hi : i < n) (hj : j < zs.size) : ((Array.range (n * zs.size)).map (fun q => zs[q % zs.size]!))[i * zs.size + j]? = zs[j]? := by
 have h3 : (i + 1) * zs.size ≤ n * zs.size := Nat.mul_le_mul_right _ hi
 rw [Nat.add_mul] at h3
 rw [Array.getElem?_map, Array.getElem?_range, if_pos (by omega)]
 have : (i * zs.size + j) % zs.size = j := by rw [Nat.add_comm, Nat.add_mul_mod_self_right, Nat.mod_eq_of_lt hj]
 simp [this, hj]
theorem s_makeSlice {t : TypeId} {l c : Operand} {n : Int} {e : TypeId} {z : Value} (hΓ : ∀ W', Below B0 W W' → Γ W → Γ W') (ho : o.op = .makeSlice t l c) (hl : S.eval l = .d (.val (.int .i64 n))) (hc : S.eval c = .d (.val (.int .i64 n))) (he : elemT P t = some e) (hz : zeroOf P e = some z) (hsz : 0 < szOf P e) (hzs : z.cells.size = szOf P e) (hz1 : ofV z ≠ .any) (hz2 : (ofV z).cells.length = szOf P e)
  (h0 : 0 ≤ n) (hn : n ≤ 9223372036854775807) (hb : bytesOf P e * n ≤ 140737488355328) (h : K (.d (.sl true (List.replicate n.toNat (ofV z)))) S) (r : Rel F Γ B0 W0 N β S a W) (hK : ∀ t S' β' v W', K t S' → Rel F Γ B0 W0 N β' S' a W' → RepT F β' W' v t → Kc (a.put o.dst v) W') : o.wp P a W Kc Q := by
 have hu := elemT_some he
 obtain ⟨i, hinf, hzi, hsi, hbi⟩ := info_of hz
 have el := r.val hl
 have ec := r.val hc
 obtain ⟨n, rfl⟩ := Int.eq_ofNat_of_zero_le h0
 rw [Int.toNat_natCast] at h
 have hrep := rep_ofV (Fr F β) W z
 obtain ⟨k1, k2, k3⟩ := rep_cells hrep hz1
 have hrow := r.row hΓ e ((Array.range (n * z.cells.size)).map (fun q => z.cells[q % z.cells.size]!)) (List.replicate n (ofV z)) (szOf P e) n true (fun x hx => by rw [(List.mem_replicate.1 hx).2]; exact hz2) (by simp [hzs]) (by simp) (by simp; omega) (fun _ => by simp) (fun i' j x y u hx hy hu => by
  have hi' : i' < n := by have := (List.getElem?_eq_some_iff.1 hx).1; simpa using this
  rw [List.getElem?_replicate, if_pos hi'] at hx
  injection hx with hx; subst hx
  have hj : j < z.cells.size := by rw [k1]; exact (List.getElem?_eq_some_iff.1 hy).1
  rw [← hzs, zeros_at _ _ _ _ (by omega) hi' hj] at hu
  exact k3 j u y hu hy)
 rw [List.length_replicate] at hrow
 refine opv (v := .slice (some ⟨W.heap.size, 0, none⟩) n n) (W' := W.alloc (.cells ((Array.range (n * z.cells.size)).map (fun q => z.cells[q % z.cells.size]!)) e)) ?_ (hK _ _ _ _ _ h hrow.1 hrow.2)
 have hw : IntKind.i64.wrap (n : Int) = n := by unfold IntKind.wrap; simp [IntKind.bits, IntKind.signed]; omega
 rw [hbi] at hb
 simp only [execOp, ho, Instr.makeSlice, el, ec]
 have hb' : ¬ (281474976710656 : Int) < (i.bytes : Int) * (n : Int) := by omega
 have hr : ¬ (140737488355328 : Nat) < n * i.bytes := by
  have : ((i.bytes * n : Nat) : Int) ≤ 140737488355328 := by simpa using hb
  rw [Nat.mul_comm]; omega
 simp only [hzs, hsi]
 have hlt : ¬ ((n : Int) < 0) := by omega
 by_cases hne : n * i.size = 0
 ·simp [run_underlying hu, asInt, asIntOf, sizeOf, typeInfo, hinf, zeroValue, hzi, hw, hb', hlt, askRoom, roomBytes, newRow, newObj, hr, hne]
  have e1 : ∀ f : Nat → Value, Array.map f (Array.range 0) = #[] := fun f => Array.eq_empty_of_size_eq_zero (by simp)
  rw [e1, e1]; rfl
 ·simp [run_underlying hu, asInt, asIntOf, sizeOf, typeInfo, hinf, zeroValue, hzi, hw, hb', hlt, askRoom, roomBytes, newRow, newObj, hr, hne, hzs.trans hsi]
  rfl
theorem s_alloc {t : TypeId} {z : Value} (hΓ : ∀ W', Below B0 W W' → Γ W → Γ W') (ho : o.op = .alloc t) (hz : zeroOf P t = some z) (h1 : (z.cells.all (·.oneCell')) = true) (h : K (.ptr S.b.length 0) { S with b := S.b ++ [some (t, z.cells.toList.map ofV1)] }) (r : Rel F Γ B0 W0 N β S a W) (hK : ∀ t S' β' v W', K t S' → Rel F Γ B0 W0 N β' S' a W' → RepT F β' W' v t → Kc (a.put o.dst v) W') : o.wp P a W Kc Q := by
 obtain ⟨i, hinf, hzi, _, _⟩ := info_of hz
 have r' := r.new hΓ t z.cells (z.cells.toList.map ofV1) (by simp) (fun j u hu => by
  obtain ⟨hj, e⟩ := Array.getElem?_eq_some_iff.1 hu
  have := Array.all_eq_true.1 h1 j hj
  rw [e] at this; exact this) (fun j u y hu hy => by
  simp only [List.getElem?_map, Array.getElem?_toList, hu, Option.map_some, Option.some.injEq] at hy
  subst hy; exact rep_ofV1 _ W u)
 refine opv (v := .pointer (some ⟨W.heap.size, 0, none⟩)) (W' := W.alloc (.cells z.cells t)) ?_ (hK _ _ _ _ _ h r' ?_)
 ·simp [execOp, ho, Instr.alloc, zeroValue, typeInfo, hinf, hzi, newVar, newRow, newObj]; rfl
 ·exact .inr ⟨W.heap.size, by rw [← r.len, List.getElem?_append_right (Nat.le_refl _)]; simp, rfl⟩
theorem s_box {t : TypeId} {x : Operand} {y : D} (hΓ : ∀ W', Below B0 W W' → Γ W → Γ W') (ho : o.op = .box t x) (hx : S.eval x = .d y) (hy : y ≠ .any) (h : K (.ptr S.b.length 0) { S with b := S.b ++ [some (t, y.cells)] }) (r : Rel F Γ B0 W0 N β S a W) (hK : ∀ t S' β' v W', K t S' → Rel F Γ B0 W0 N β' S' a W' → RepT F β' W' v t → Kc (a.put o.dst v) W') : o.wp P a W Kc Q := by
 have hr := r.eval x
 rw [hx] at hr
 obtain ⟨k1, k2, k3⟩ := rep_cells hr hy
 have r' := r.new hΓ t (a.eval x).cells y.cells k1 k2 k3
 refine opv (v := .pointer (some ⟨W.heap.size, 0, none⟩)) (W' := W.alloc (.cells (a.eval x).cells t)) ?_ (hK _ _ _ _ _ h r' ?_)
 ·simp [execOp, ho, Instr.box, newVar, newRow, newObj]; rfl
 ·exact .inr ⟨W.heap.size, by rw [← r.len, List.getElem?_append_right (Nat.le_refl _)]; simp, rfl⟩
theorem rowT_true {t : TypeId} (h : rowT P t = some true) (W : World) : (isAgg t).run P W = .ok true W := by
 unfold rowT at h
 split at h <;> (try cases h) <;> simp_all [isAgg, run_underlying]
theorem rowT_false {t : TypeId} (h : rowT P t = some false) (W : World) : (isAgg t).run P W = .ok false W := by
 unfold rowT at h
 split at h <;> (try cases h)
 rename_i u h1 h2 hu
 have e := run_underlying hu W
 cases u <;> simp_all [isAgg]
theorem s_indexAddr {t : TypeId} {x ix : Operand} {ex : Bool} {xs : List D} {k : IntKind} {n : Int} {e : TypeId} (ho : o.op = .indexAddr t x ix) (hx : S.eval x = .d (.sl ex xs)) (hi : S.eval ix = .d (.val (.int k n))) (he : elemT P t = some e) (h0 : 0 ≤ n) (hn : n < xs.length) (hsz : ∀ y, y ∈ xs → y.cells.length = szOf P e) (hsp : 0 < szOf P e)
  (h : K (.eptr (xs.getD n.toNat .any)) S) (r : Rel F Γ B0 W0 N β S a W) (hK : ∀ t S' β' v W', K t S' → Rel F Γ B0 W0 N β' S' a W' → RepT F β' W' v t → Kc (a.put o.dst v) W') : o.wp P a W Kc Q := by
 have hu := elemT_some he
 obtain ⟨inf, hinf, hsi⟩ := info_sz hsp
 have hr := r.eval x
 have ei := r.val hi
 rw [hx] at hr
 generalize hev : a.eval x = v at hr
 cases hr with
 | sl _ A c sz _ ad hc hm hex hA hs hok hh =>
  obtain ⟨n, rfl⟩ := Int.eq_ofNat_of_zero_le h0
  have hn' : n < xs.length := by omega
  have hA' := hA (by omega)
  subst hA'
  rw [Int.toNat_natCast] at h
  have hget : xs[n]? = some xs[n] := List.getElem?_eq_getElem hn'
  have hgd : xs.getD n .any = xs[n] := by rw [List.getD_eq_getElem?_getD, hget]; rfl
  have hsz' : sz = inf.size := by rw [← hs n _ hget, hsz _ (List.getElem_mem hn'), hsi]
  refine opv (v := .pointer (some (ad.add (n * sz)))) (W' := W) ?_ (hK _ _ _ _ _ h r ?_)
  ·simp [execOp, ho, Instr.indexAt, hev, ei, asIntOf, run_underlying hu, sizeOf, typeInfo, hinf, hn', hsz']
  ·rw [hgd]
   refine ⟨_, rfl, fun j y hy => ?_⟩
   obtain ⟨h5, h6⟩ := hok n j _ y hget hy
   obtain ⟨u, hu'⟩ := Option.isSome_iff_exists.1 h6
   exact ⟨by rw [add_block]; exact h5, u, by rw [add_add]; exact hu', hh n j _ y u hget hy hu'⟩
theorem s_load_val {t : TypeId} {p : Operand} {x : D} (ho : o.op = .load t p) (ht : rowT P t = some false) (hp : S.eval p = .eptr x) (hx : x.cells = [x]) (h : K (.d x) S) (r : Rel F Γ B0 W0 N β S a W) (hK : ∀ t S' β' v W', K t S' → Rel F Γ B0 W0 N β' S' a W' → RepT F β' W' v t → Kc (a.put o.dst v) W') : o.wp P a W Kc Q := by
 have hr := r.eval p
 rw [hp] at hr
 obtain ⟨ad, h1, h2⟩ := hr
 obtain ⟨_, u, h3, h4⟩ := h2 0 x (by rw [hx]; rfl)
 have h0 : ad.add 0 = ad := by unfold Addr.add; simp
 rw [h0] at h3
 refine opv (v := u) (W' := W) ?_ (hK _ _ _ _ _ h r h4)
 have hl : (loadVar t ad).run P W = .ok u W := by
  simp [loadVar, rowT_false ht, load, Sem.run, h3]
 simp [execOp, ho, Instr.loadAt, h1, Instr.sureAddr, hl]
theorem run_loadAgg {ad : Addr} {t : TypeId} (ht : rowT P t = some true) (vs : List Value) (hl : szOf P t = vs.length) (h0 : 0 < szOf P t) (h : ∀ (j : Nat) u, vs[j]? = some u → W.cell? (ad.add j) = some u) : (loadVar t ad).run P W = .ok (.agg vs.toArray) W := by
 obtain ⟨i, hi, hs⟩ := info_sz h0
 have := run_loadCells_list (P := P) W ad vs h
 rw [← hl, hs] at this
 simp [loadVar, rowT_true ht, sizeOf, typeInfo, hi, this]
theorem rep_one {ok : Nat → Prop} {u : Value} {y : D} (h : Rep ok W u y) (hy : y.one = true) : u.oneCell' = true := by
 cases h with
 | any v => cases hy
 | val v h => exact h
 | sl ex A c sz xs ad hc hm hex hA hs hok hh => rfl
 | agg vs cs hl h1 hh => cases hy
theorem s_load_agg {t : TypeId} {p : Operand} {cs : List D} (ho : o.op = .load t p) (ht : rowT P t = some true) (hp : S.eval p = .eptr (.agg cs)) (hx : cs.length = szOf P t) (h0 : 0 < szOf P t) (hone : ∀ y, y ∈ cs → y.one = true) (h : K (.d (.agg cs)) S) (r : Rel F Γ B0 W0 N β S a W) (hK : ∀ t S' β' v W', K t S' → Rel F Γ B0 W0 N β' S' a W' → RepT F β' W' v t → Kc (a.put o.dst v) W') : o.wp P a W Kc Q := by
 have hr := r.eval p
 rw [hp] at hr
 obtain ⟨ad, e1, e2⟩ := hr
 have hc : ∀ j, j < cs.length → ∃ u, W.cell? (ad.add j) = some u := fun j hj => by
  obtain ⟨_, u, hu, _⟩ := e2 j cs[j] (List.getElem?_eq_getElem hj)
  exact ⟨u, hu⟩
 let vs := (List.range cs.length).map fun j => (W.cell? (ad.add j)).getD undef
 have hvs : ∀ (j : Nat) u, vs[j]? = some u → j < cs.length ∧ W.cell? (ad.add j) = some u := fun j u hu => by
  simp only [vs, List.getElem?_map, Option.map_eq_some_iff] at hu
  obtain ⟨q, hq, rfl⟩ := hu
  have hj : j < cs.length := by have := (List.getElem?_eq_some_iff.1 hq).1; simpa using this
  rw [List.getElem?_range hj] at hq
  injection hq with hq; subst hq
  obtain ⟨u, hu⟩ := hc j hj
  exact ⟨hj, by rw [hu]; rfl⟩
 have hvl : vs.length = cs.length := by simp [vs]
 have hl := run_loadAgg (P := P) (W := W) (ad := ad) ht vs (by omega) h0 (fun j u hu => (hvs j u hu).2)
 refine opv (v := .agg vs.toArray) (W' := W) ?_ (hK _ _ _ _ _ h r ?_)
 ·simp [execOp, ho, Instr.loadAt, e1, Instr.sureAddr, hl]
 ·refine Rep.agg _ _ (by simp [hvl]) (fun j u hu => ?_) (fun j u y hu hy => ?_)
  ·obtain ⟨hj, hu'⟩ := hvs j u (by simpa using hu)
   obtain ⟨_, u2, hu2, hr2⟩ := e2 j cs[j] (List.getElem?_eq_getElem hj)
   rw [hu'] at hu2; injection hu2 with hu2; subst hu2
   exact rep_one hr2 (hone _ (List.getElem_mem hj))
  ·obtain ⟨hj, hu'⟩ := hvs j u (by simpa using hu)
   obtain ⟨_, u2, hu2, hr2⟩ := e2 j y hy
   rw [hu'] at hu2; injection hu2 with hu2; subst hu2; exact hr2
theorem Rel.var (r : Rel F Γ B0 W0 N β S a W) {x : Operand} {i off : Nat} (hx : S.eval x = .ptr i off) {e : TypeId} {cs : List D} (hb : S.b[i]? = some (some (e, cs))) : ∃ b, β[i]? = some (some b) ∧ a.eval x = .pointer (some ⟨b, off, none⟩) ∧ VarAt F β W b e cs := by
 have hr := r.eval x
 rw [hx] at hr
 obtain ⟨b0, hb0⟩ := r.live i _ hb
 rcases hr with hd | ⟨b, h1, h2⟩
 ·rw [hb0] at hd; cases hd
 ·exact ⟨b, h1, h2, r.vars i b e cs h1 hb⟩
theorem s_load_var {t : TypeId} {p : Operand} {i off : Nat} {e : TypeId} {cs : List D} {y : D} (ho : o.op = .load t p) (ht : rowT P t = some false) (hp : S.eval p = .ptr i off) (hb : S.b[i]? = some (some (e, cs))) (hy : cs[off]? = some y) (h : K (.d y) S) (r : Rel F Γ B0 W0 N β S a W) (hK : ∀ t S' β' v W', K t S' → Rel F Γ B0 W0 N β' S' a W' → RepT F β' W' v t → Kc (a.put o.dst v) W') : o.wp P a W Kc Q := by
 obtain ⟨b, h1, h2, cells, h3, h4, h5, h6⟩ := r.var hp hb
 have ho' : off < cells.size := by rw [h4]; exact (List.getElem?_eq_some_iff.1 hy).1
 have hc : W.cell? ⟨b, off, none⟩ = some cells[off] := by simp only [World.cell?, h3]; simp [Array.getElem?_eq_getElem ho']
 refine opv (v := cells[off]) (W' := W) ?_ (hK _ _ _ _ _ h r (h6 off _ y (Array.getElem?_eq_getElem ho') hy))
 have hl : (loadVar t ⟨b, off, none⟩).run P W = .ok cells[off] W := by simp [loadVar, rowT_false ht, load, Sem.run, hc]
 simp [execOp, ho, Instr.loadAt, h2, Instr.sureAddr, hl]
theorem add_mid (b o n : Nat) : (⟨b, o, none⟩ : Addr).add n = ⟨b, o + n, none⟩ := by unfold Addr.add; split <;> simp_all
theorem s_load_varAgg {t : TypeId} {p : Operand} {i off : Nat} {e : TypeId} {cs : List D} (ho : o.op = .load t p) (ht : rowT P t = some true) (hp : S.eval p = .ptr i off) (hb : S.b[i]? = some (some (e, cs))) (h0 : 0 < szOf P t) (hle : off + szOf P t ≤ cs.length) (h : K (.d (.agg ((cs.drop off).take (szOf P t)))) S) (r : Rel F Γ B0 W0 N β S a W) (hK : ∀ t S' β' v W', K t S' → Rel F Γ B0 W0 N β' S' a W' → RepT F β' W' v t → Kc (a.put o.dst v) W') : o.wp P a W Kc Q := by
 obtain ⟨b, h1, h2, cells, h3, h4, h5, h6⟩ := r.var hp hb
 have hc : ∀ j, W.cell? ⟨b, j, none⟩ = cells[j]? := fun j => by simp only [World.cell?, h3]; rfl
 have hl := run_loadAgg (P := P) (W := W) (ad := ⟨b, off, none⟩) ht ((cells.toList.drop off).take (szOf P t)) (by simp; omega) h0 (fun j u hu => by
  rw [add_mid, hc]
  rw [List.getElem?_take] at hu
  split at hu
  ·simpa using hu
  ·cases hu)
 refine opv (v := .agg ((cells.toList.drop off).take (szOf P t)).toArray) (W' := W) ?_ (hK _ _ _ _ _ h r ?_)
 ·simp [execOp, ho, Instr.loadAt, h2, Instr.sureAddr, hl]
 ·refine Rep.agg _ _ (by simp; omega) (fun j u hu => ?_) (fun j u y hu hy => ?_)
  ·simp only [List.getElem?_toArray, List.getElem?_take] at hu
   split at hu
   ·exact h5 (off + j) u (by simpa using hu)
   ·cases hu
  ·simp only [List.getElem?_toArray, List.getElem?_take] at hu hy
   split at hu
   ·rename_i hj
    rw [if_pos hj] at hy
    exact h6 (off + j) u y (by simpa using hu) (by simpa using hy)
   ·cases hu
theorem s_fieldAddr {t : TypeId} {x : Operand} {f i off q : Nat} {ft : TypeId} (ho : o.op = .fieldAddr t x f) (hf : offT P t f = some (q, ft)) (hx : S.eval x = .ptr i off) {lv : TypeId × List D} (hlv : S.b[i]? = some (some lv)) (h : K (.ptr i (off + q)) S) (r : Rel F Γ B0 W0 N β S a W) (hK : ∀ t S' β' v W', K t S' → Rel F Γ B0 W0 N β' S' a W' → RepT F β' W' v t → Kc (a.put o.dst v) W') : o.wp P a W Kc Q := by
 have hr := r.eval x
 rw [hx] at hr
 obtain ⟨b0, hb0⟩ := r.live i _ hlv
 have hr' : ∃ b, β[i]? = some (some b) ∧ a.eval x = .pointer (some ⟨b, off, none⟩) := by
  rcases hr with hd | hr
  ·rw [hb0] at hd; cases hd
  ·exact hr
 obtain ⟨b, h1, h2⟩ := hr'
 refine opv (v := .pointer (some ⟨b, off + q, none⟩)) (W' := W) ?_ (hK _ _ _ _ _ h r (.inr ⟨b, h1, rfl⟩))
 unfold offT at hf
 split at hf
 ·rename_i fs hu
  simp only [Option.bind_eq_some_iff] at hf
  obtain ⟨fd, hfd, hif⟩ := hf
  split at hif
  ·cases hif
  ·rename_i hne
   injection hif with hif
   injection hif with e1 e2; subst e1 e2
   obtain ⟨inf, hinf, hsi⟩ := info_sz (Nat.pos_of_ne_zero hne)
   rw [hsi] at hne
   simp [execOp, ho, Instr.fieldAt, h2, run_underlying hu, hfd, Instr.sureAddr, fieldPlace, sizeOf, typeInfo, hinf, hne, add_mid]
 ·cases hf
theorem s_indexArr {t : TypeId} {x ix : Operand} {i off n : Nat} {k : IntKind} {m : Int} {e : TypeId} (ho : o.op = .indexAddr t x ix) (ht : P.underlying t = some (.array n e)) (hx : S.eval x = .ptr i off) {lv : TypeId × List D} (hlv : S.b[i]? = some (some lv)) (hi : S.eval ix = .d (.val (.int k m))) (h0 : 0 ≤ m) (hm : m < n) (hsp : 0 < szOf P e) (h : K (.ptr i (off + m.toNat * szOf P e)) S) (r : Rel F Γ B0 W0 N β S a W) (hK : ∀ t S' β' v W', K t S' → Rel F Γ B0 W0 N β' S' a W' → RepT F β' W' v t → Kc (a.put o.dst v) W') : o.wp P a W Kc Q := by
 have hr := r.eval x
 rw [hx] at hr
 obtain ⟨b0, hb0⟩ := r.live i _ hlv
 have hr' : ∃ b, β[i]? = some (some b) ∧ a.eval x = .pointer (some ⟨b, off, none⟩) := by
  rcases hr with hd | hr
  ·rw [hb0] at hd; cases hd
  ·exact hr
 obtain ⟨b, h1, h2⟩ := hr'
 obtain ⟨inf, hinf, hsi⟩ := info_sz hsp
 obtain ⟨m, rfl⟩ := Int.eq_ofNat_of_zero_le h0
 have hm' : m < n := by omega
 rw [Int.toNat_natCast] at h
 refine opv (v := .pointer (some ⟨b, off + m * szOf P e, none⟩)) (W' := W) ?_ (hK _ _ _ _ _ h r (.inr ⟨b, h1, rfl⟩))
 simp [execOp, ho, Instr.indexAt, h2, r.val hi, asIntOf, run_underlying ht, Instr.sureAddr, sizeOf, typeInfo, hinf, hm', add_mid, hsi]
theorem s_call {f : FuncId} {as_ : Array Operand} {ts : Array TypeId} {res : T} (hΓ : ∀ W', Below B0 W W' → Γ W → Γ W') (ho : o.op = .call { callee := .value (.func f), args := as_, argTypes := ts }) (hC : Spec P Γ f (as_.toList.map S.eval) res) (h : K res S) (r : Rel F Γ B0 W0 N β S a W) (hK : ∀ t S' β' v W', K t S' → Rel F Γ B0 W0 N β' S' a W' → RepT F β' W' v t → Kc (a.put o.dst v) W') : o.wp P a W Kc Q := by
 obtain ⟨⟨fn, hfn, hname, hbody⟩, ds, hds, hcall⟩ := hC
 have hl : as_.toList.length = ds.length := by simpa using congrArg List.length hds
 have hargs : ∀ (i : Nat) v x, (as_.toList.map a.eval)[i]? = some v → ds[i]? = some x → Rep (Fr F β) W v x := fun i v x hv hx => by
  simp only [List.getElem?_map, Option.map_eq_some_iff] at hv
  obtain ⟨p, hp, rfl⟩ := hv
  have := congrArg (fun l : List T => l[i]?) hds
  simp only [List.getElem?_map, hp, hx, Option.map_some, Option.some.injEq] at this
  have hr := r.eval p
  rw [this] at hr; exact hr
 have hc := hcall (Fr F β) W (as_.toList.map a.eval) r.gam (by rw [List.length_map]; exact hl) hargs
 obtain ⟨c, hcode⟩ := Option.isSome_iff_exists.1 hbody
 have hname' : fn.name ≠ "runtime.NumGoroutine" := by simpa using hname
 have hrun : (execOp a.eval o).run P W = .ok (.enter f (as_.map a.eval)) W := by
  have : (callFunc f (as_.map a.eval)).run P W = .ok (.enter f (as_.map a.eval)) W := by simp [callFunc, hfn, hname', hcode]
  unfold execOp
  simp [ho, resolve, Deferred.ofValue, invoke, Act.eval, this]
 unfold Oper.wp
 rw [hrun, Oper.upon_enter]
 have ea : (as_.toList.map a.eval).toArray = as_.map a.eval := by rw [← Array.toList_map]
 rw [ea] at hc
 refine hc.mono fun e W' hh => ?_
 obtain ⟨v, rfl, hv, hb⟩ := hh
 have hno : ∀ k, (Fr F β k ∨ W.heap.size ≤ k) → Fr F β k := fun k hk => by
  rcases hk with hk | hk
  ·exact hk
  ·exact ⟨r.foot k (Nat.le_trans r.le hk), fun hm => by have := (r.own k hm).2; omega⟩
 refine hK _ _ _ _ _ h (r.step hb (hΓ _ (hb.mono r.le) r.gam)) ?_
 cases res with
 | d x => exact Rep.mono (fun k hk _ => hno k hk) hv
 | tup ts => obtain ⟨vs, h1, h2, h3⟩ := hv; exact ⟨vs, h1, h2, fun i u y hu hy => (h3 i u y hu hy).mono fun k hk _ => hno k hk⟩
 | ptr i off => exact hv.elim
 | eptr x => exact hv.elim
 | row i n c => exact hv.elim
end
end Go.Proofs.YtijebgceopddmaaDoor.Ax
end
section
set_option linter.unusedVariables false
set_option linter.unusedSimpArgs false
namespace Go.Proofs.YtijebgceopddmaaDoor.Ax
open Go.RowKit
def overA (cells : Array Value) : Nat → List Value → Array Value
 | _, [] => cells
 | o, v :: r => overA (cells.setIfInBounds o v) (o + 1) r
theorem overA_size : ∀ (vs : List Value) (o : Nat) (cells : Array Value), (overA cells o vs).size = cells.size
 | [], _, _ => rfl
 | v :: r, o, cells => by rw [overA, overA_size]; simp
theorem overA_at : ∀ (vs : List Value) (o : Nat) (cells : Array Value), o + vs.length ≤ cells.size → ∀ q, (overA cells o vs)[q]? = if o ≤ q ∧ q < o + vs.length then vs[q - o]? else cells[q]?
 | [], o, cells, h, q => by rw [if_neg (by simp)]; rfl
 | v :: r, o, cells, h, q => by
  simp only [List.length_cons] at h ⊢
  rw [overA, overA_at r (o + 1) _ (by simp; omega)]
  by_cases hq : q = o
  ·subst hq
   rw [if_neg (by omega), if_pos (by omega), Array.getElem?_setIfInBounds]
   simp; omega
  ·by_cases h2 : o + 1 ≤ q ∧ q < o + 1 + r.length
   ·rw [if_pos h2, if_pos (by omega), show q - o = (q - (o + 1)) + 1 by omega, List.getElem?_cons_succ]
   ·rw [if_neg h2, if_neg (by omega), Array.getElem?_setIfInBounds, if_neg (by omega)]
theorem setCell_heap {W : World} {b : Nat} {cells : Array Value} {e : TypeId} (o : Nat) (v : Value) (h : W.heap[b]? = some (.cells cells e (0, 0))) : (W.setCell ⟨b, o, none⟩ v).heap[b]? = some (.cells (cells.setIfInBounds o v) e (0, 0)) := by
 simp [World.setCell, Array.getElem?_modify, h]
theorem setCells_heap {b : Nat} {e : TypeId} : ∀ (vs : List Value) (o : Nat) (W : World) (cells : Array Value), W.heap[b]? = some (.cells cells e (0, 0)) →
  (W.setCells b o vs).heap[b]? = some (.cells (overA cells o vs) e (0, 0)) ∧ (∀ k, k ≠ b → (W.setCells b o vs).heap[k]? = W.heap[k]?) ∧ (W.setCells b o vs).heap.size = W.heap.size ∧ (W.setCells b o vs).os = W.os ∧ (W.setCells b o vs).tape = W.tape ∧ (W.setCells b o vs).output = W.output
 | [], o, W, cells, h => ⟨h, fun _ _ => rfl, rfl, rfl, rfl, rfl⟩
 | v :: r, o, W, cells, h => by
  obtain ⟨h1, h2, h3, h4, h5, h6⟩ := setCells_heap r (o + 1) (W.setCell ⟨b, o, none⟩ v) _ (setCell_heap o v h)
  refine ⟨h1, fun k hk => (h2 k hk).trans (Below.heap_setCell W ⟨b, o, none⟩ v k hk), h3.trans (by simp [World.setCell]), h4, h5, h6⟩
section
variable {P : Program} {C : FuncId → List T → T → Prop} {F : Nat → Prop} {Γ : World → Prop} {B0 N : Nat} {W0 W : World} {β : List (Option Nat)} {S : St} {a : Act} {o : Oper} {K : T → St → Prop} {Kc : Act → World → Prop} {Q : Exit → Act → World → Prop}
theorem Rel.set (r : Rel F Γ B0 W0 N β S a W) (hΓ : ∀ W', Below B0 W W' → Γ W → Γ W') {i b off : Nat} {e : TypeId} {cs : List D} (hi : β[i]? = some (some b)) (hb : S.b[i]? = some (some (e, cs))) (vs : List Value) (ds : List D) (hl : vs.length = ds.length) (hle : off + ds.length ≤ cs.length)
  (h1 : ∀ u, u ∈ vs → u.oneCell' = true) (h : ∀ (j : Nat) u y, vs[j]? = some u → ds[j]? = some y → Rep (Fr F β) W u y) : Rel F Γ B0 W0 N β { S with b := S.b.set i (some (e, over cs off ds)) } a (W.setCells b off vs) := by
 obtain ⟨cells, g1, g2, g3, g4⟩ := r.vars i b e cs hi hb
 obtain ⟨w1, w2, w3, w4, w5, w6⟩ := setCells_heap vs off W cells g1
 have hmem : some b ∈ β := List.mem_of_getElem? hi
 have hk : ∀ k, Fr F β k → k < W.heap.size → Fr F β k ∧ (W.setCells b off vs).heap[k]? = W.heap[k]? := fun k h1 h2 => ⟨h1, w2 k fun e => h1.2 (e ▸ hmem)⟩
 have hbl : Below B0 W (W.setCells b off vs) := ⟨w4, w5, w6, by omega, fun k hk' => w2 k fun e => by have := (r.own b hmem).1; omega⟩
 refine ⟨r.below.trans hbl, by rw [w3]; exact r.le, hΓ _ hbl r.gam, r.foot, r.size, r.defers, r.nodup, by simp [r.len], fun j x hj => ?_, fun q hq => by rw [w3]; exact r.own q hq, fun j => (r.slots j).move (fun _ _ h => h) hk, fun j q e' cs' hj hq => ?_⟩
 ·by_cases hij : i = j
  ·subst hij; exact ⟨b, hi⟩
  ·rw [List.getElem?_set_ne hij] at hj; exact r.live j x hj
 by_cases hij : i = j
 ·subst hij
  rw [hi] at hj; injection hj with hj; injection hj with hj; subst hj
  have hlt : i < S.b.length := by rw [← r.len]; exact (List.getElem?_eq_some_iff.1 hi).1
  rw [List.getElem?_set_self hlt] at hq
  injection hq with hq; injection hq with hq; injection hq with e1 e2; subst e1 e2
  have hol : (over cs off ds).length = cs.length := by simp [over]; omega
  have hco : ∀ q, (over cs off ds)[q]? = if off ≤ q ∧ q < off + ds.length then ds[q - off]? else cs[q]? := fun q => by
   unfold over
   by_cases h1 : q < off
   ·rw [if_neg (by omega), List.append_assoc, List.getElem?_append_left (by simp; omega), List.getElem?_take, if_pos h1]
   ·by_cases h2 : q < off + ds.length
    ·rw [if_pos (by omega), List.append_assoc, List.getElem?_append_right (by simp; omega), List.getElem?_append_left (by simp; omega)]
     simp only [List.length_take]
     rw [Nat.min_eq_left (by omega)]
    ·rw [if_neg (by omega), List.getElem?_append_right (by simp; omega), List.getElem?_drop]
     simp only [List.length_append, List.length_take]
     rw [Nat.min_eq_left (by omega), show off + ds.length + (q - (off + ds.length)) = q by omega]
  refine ⟨_, w1, by rw [overA_size, g2, hol], fun q u hu => ?_, fun q u y hu hy => ?_⟩
  ·rw [overA_at vs off cells (by omega)] at hu
   split at hu
   ·exact h1 u (List.mem_of_getElem? hu)
   ·exact g3 q u hu
  ·rw [overA_at vs off cells (by omega)] at hu
   rw [hco, ← hl] at hy
   split at hu
   ·rename_i hc; rw [if_pos hc] at hy
    exact (h (q - off) u y hu hy).move hk
   ·rename_i hc; rw [if_neg hc] at hy
    exact (g4 q u y hu hy).move hk
 ·rw [List.getElem?_set_ne hij] at hq
  obtain ⟨c', f1, f2, f3, f4⟩ := r.vars j q e' cs' hj hq
  have hne : q ≠ b := fun e => hij (r.nodup i j b hi (by rw [hj, e]))
  exact ⟨c', by rw [w2 q hne]; exact f1, f2, f3, fun t u y hu hy => (f4 t u y hu hy).move hk⟩
theorem s_store {t : TypeId} {p x : Operand} {i off : Nat} {e : TypeId} {cs : List D} {y : D} (hΓ : ∀ W', Below B0 W W' → Γ W → Γ W') (ho : o.op = .store t p x) (hp : S.eval p = .ptr i off) (hb : S.b[i]? = some (some (e, cs))) (hx : S.eval x = .d y) (hy : y ≠ .any) (hsz : y.cells.length = szOf P t) (h0 : 0 < szOf P t) (hle : off + y.cells.length ≤ cs.length)
  (h : K (.d .any) { S with b := S.b.set i (some (e, over cs off y.cells)) }) (r : Rel F Γ B0 W0 N β S a W) (hK : ∀ t S' β' v W', K t S' → Rel F Γ B0 W0 N β' S' a W' → RepT F β' W' v t → Kc (a.put o.dst v) W') : o.wp P a W Kc Q := by
 obtain ⟨b, h1, h2, cells, h3, h4, h5, h6⟩ := r.var hp hb
 have hr := r.eval x
 rw [hx] at hr
 obtain ⟨k1, k2, k3⟩ := rep_cells hr hy
 have hone : ∀ u, u ∈ (a.eval x).cells.toList → u.oneCell' = true := fun u hu => by
  obtain ⟨j, hj⟩ := List.getElem?_of_mem hu
  exact k2 j u (by simpa using hj)
 have r' := r.set hΓ h1 hb (a.eval x).cells.toList y.cells (by simpa using k1) hle hone (fun j u y' hu hy' => k3 j u y' (by simpa using hu) hy')
 obtain ⟨inf, hinf, hsi⟩ := info_sz h0
 have hc : ∀ j, W.cell? ⟨b, j, none⟩ = cells[j]? := fun j => by simp only [World.cell?, h3]; rfl
 have hst := run_storeCells_cells (P := P) b off (a.eval x).cells.toList 0 W (fun j hj => by
  rw [hc, Array.getElem?_eq_getElem (by simp at hj; omega)]; rfl) (fun j hj => by simp [World.frozen?, h3]) hone
 refine ops (W' := W.setCells b off (a.eval x).cells.toList) ?_ (hK _ _ _ _ _ h r' (Rep.any _))
 have hs : (a.eval x).cells.size = inf.size := by rw [k1, hsz, hsi]
 simp only [Nat.add_zero] at hst
 simp [execOp, ho, Instr.storeAt, h2, Instr.sureAddr, storeVar, sizeOf, typeInfo, hinf, hs, hst]
theorem s_slice {t : TypeId} {x : Operand} {lo hi mx : Option Operand} {ex : Bool} {xs : List D} {e : TypeId} {l h' : Nat} (ho : o.op = .slice t x lo hi mx) (hx : S.eval x = .d (.sl ex xs)) (he : elemT P t = some e) (hsp : 0 < szOf P e) (hsz : ∀ y, y ∈ xs → y.cells.length = szOf P e)
  (hlo : match lo with | some q => ∃ k, S.eval q = .d (.val (.int k l)) | none => l = 0) (hhi : match hi with | some q => ∃ k, S.eval q = .d (.val (.int k h')) | none => h' = xs.length ∧ mx = none) (hmx : match mx with | some q => ∃ k, S.eval q = .d (.val (.int k h')) | none => True) (hl : l ≤ h') (hh : h' ≤ xs.length)
  (h : K (.d (.sl (mx.isSome || (ex && h' == xs.length)) ((xs.take h').drop l))) S) (r : Rel F Γ B0 W0 N β S a W) (hK : ∀ t S' β' v W', K t S' → Rel F Γ B0 W0 N β' S' a W' → RepT F β' W' v t → Kc (a.put o.dst v) W') : o.wp P a W Kc Q := by
 have hu := elemT_some he
 obtain ⟨inf, hinf, hsi⟩ := info_sz hsp
 have hr := r.eval x
 rw [hx] at hr
 generalize hev : a.eval x = v at hr
 cases hr with
 | sl _ A c sz _ ad hc hm hex hA hs hok hhh =>
  have hsz' : ∀ i, i < xs.length → sz = inf.size := fun i hi' => by rw [← hs i _ (List.getElem?_eq_getElem hi'), hsz _ (List.getElem_mem hi'), hsi]
  let m := match mx with | some _ => h' | none => c
  have hmle : h' ≤ m := by simp only [m]; split <;> omega
  have hlen : ((xs.take h').drop l).length = h' - l := by simp; omega
  have hdat : ∀ i, ((xs.take h').drop l)[i]? = if i < h' - l then xs[l + i]? else none := fun i => by
   rw [List.getElem?_drop, List.getElem?_take]
   by_cases hi' : i < h' - l
   ·rw [if_pos hi', if_pos (by omega)]
   ·rw [if_neg hi', if_neg (by omega)]
  have hrun : (execOp a.eval o).run P W = .ok (.value (.slice (if m = l then A else A.map (·.add (l * inf.size))) (h' - l) (m - l))) W := by
   simp only [execOp, ho, Instr.sliceAt, Instr.slice, hev]
   have e1 : ∀ q k (n : Nat), S.eval q = .d (.val (.int k n)) → a.eval q = .int k n := fun q k n hq => r.val hq
   cases mx with
   | some qm =>
    obtain ⟨km, hkm⟩ := hmx
    have em := e1 _ _ _ hkm
    cases hi with
    | none => exact absurd hhi.2 (by simp)
    | some qh =>
     obtain ⟨kh, hkh⟩ := hhi
     have eh := e1 _ _ _ hkh
     have hle1 : h' ≤ c := by omega
     cases lo with
     | none =>
      subst hlo
      simp [run_underlying hu, Instr.sliceBounds, Instr.sliceBound, em, eh, asIntOf, hle1, sizeOf, typeInfo, hinf, m]
     | some ql =>
      obtain ⟨kl, hkl⟩ := hlo
      have el := e1 _ _ _ hkl
      simp [run_underlying hu, Instr.sliceBounds, Instr.sliceBound, em, eh, el, asIntOf, hle1, hl, sizeOf, typeInfo, hinf, m]
   | none =>
    cases hi with
    | none =>
     obtain ⟨hh1, _⟩ := hhi
     subst hh1
     cases lo with
     | none =>
      subst hlo
      simp [run_underlying hu, Instr.sliceBounds, Instr.sliceBound, asIntOf, sizeOf, typeInfo, hinf, m]
     | some ql =>
      obtain ⟨kl, hkl⟩ := hlo
      have el := e1 _ _ _ hkl
      simp [run_underlying hu, Instr.sliceBounds, Instr.sliceBound, el, asIntOf, hl, sizeOf, typeInfo, hinf, m]
    | some qh =>
     obtain ⟨kh, hkh⟩ := hhi
     have eh := e1 _ _ _ hkh
     have hle1 : h' ≤ c := by omega
     cases lo with
     | none =>
      subst hlo
      simp [run_underlying hu, Instr.sliceBounds, Instr.sliceBound, eh, asIntOf, hle1, sizeOf, typeInfo, hinf, m]
     | some ql =>
      obtain ⟨kl, hkl⟩ := hlo
      have el := e1 _ _ _ hkl
      simp [run_underlying hu, Instr.sliceBounds, Instr.sliceBound, eh, el, asIntOf, hle1, hl, sizeOf, typeInfo, hinf, m]
  refine opv hrun (hK _ _ _ _ _ h r ?_)
  have := Rep.sl (ok := (Fr F β)) (W := W) (mx.isSome || (ex && h' == xs.length)) (if m = l then A else A.map (·.add (l * inf.size))) (m - l) sz ((xs.take h').drop l) (ad.add (l * sz)) (by rw [hlen]; omega) (by rw [hlen]; omega) (fun hq => by
    rw [hlen]
    simp only [m]
    cases mx with
    | some _ => rfl
    | none =>
     simp only [Option.isSome_none, Bool.false_or, Bool.and_eq_true, beq_iff_eq] at hq
     have := hex hq.1
     show c - l = h' - l
     omega) (fun hp => by
    rw [hlen] at hp
    have h4 := hA (by omega)
    rw [if_neg (by omega), h4, ← hsz' 0 (by omega)]; rfl) (fun i x hx' => by
    rw [hdat] at hx'
    split at hx'
    ·exact hs _ x hx'
    ·cases hx') (fun i j x y hx' hy => by
    rw [hdat] at hx'
    split at hx'
    ·have := hok _ j x y hx' hy
     rw [add_block, add_add]
     rw [show l * sz + (i * sz + j) = (l + i) * sz + j by rw [Nat.add_mul]; omega]; exact this
    ·cases hx') (fun i j x y u hx' hy hu' => by
    rw [hdat] at hx'
    split at hx'
    ·rw [add_add, show l * sz + (i * sz + j) = (l + i) * sz + j by rw [Nat.add_mul]; omega] at hu'
     exact hhh _ j x y u hx' hy hu'
    ·cases hx')
  rw [hlen] at this
  exact this
theorem run_append_exact {e : TypeId} {i : TypeInfo} {z : Value} {t : TypeId} (hu : P.underlying t = some (.slice e)) (hi : P.info? e = some i) (hz : i.zero = some z) (W : World) (A B : Option Addr) (olds news : List Value) (n m cb : Nat) (hlo : olds.length = n * i.size) (hln : news.length = m * i.size)
  (hA : ∀ (j : Nat) u, olds[j]? = some u → ∃ ad, A = some ad ∧ W.cell? (ad.add j) = some u) (hB : ∀ (j : Nat) u, news[j]? = some u → ∃ ad, B = some ad ∧ W.cell? (ad.add j) = some u) (hA0 : A = none → n = 0) (hB0 : B = none → m = 0) (h1 : ∀ u, u ∈ news → u.oneCell' = true)
  (hm : 0 < m) (hsp : 0 < i.size) (h63 : ((n + m : Nat) : Int) ≤ 9223372036854775807) (hfit : Builtin.nextslicecap (n + m) n * i.bytes ≤ 281474976710656) (ty : TypeId) :
  ∃ cap rest, n + m ≤ cap ∧ (Builtin.append_ #[t, t] ty #[.slice A n n, .slice B m cb]).run P W = .ok (.slice (some ⟨W.heap.size, 0, none⟩) (n + m) cap) (W.drew.alloc (.cells ((olds ++ news).toArray ++ rest) e)) := by
 have hsrc : Src P i.size t (.slice B m cb) m news W := by
  cases B with
  | none => exact absurd (hB0 rfl) (by omega)
  | some ad => exact Src.ofSlice W hu ad m cb news hln (fun j u hj => by obtain ⟨ad', e, hc⟩ := hB j u hj; injection e with e; subst e; exact hc) h1
 have hold : (Builtin.firstCells i.size n (.slice A n n)).run P W.drew = .ok olds.toArray W.drew := by
  cases A with
  | none =>
   have h0 := hA0 rfl
   subst h0
   have : olds = [] := List.eq_nil_of_length_eq_zero (by simpa using hlo)
   subst this
   simp [Builtin.firstCells]
  | some ad => exact run_firstCells_some (P := P) W.drew i.size n ad n n olds hlo (fun j u hj => by obtain ⟨ad', e, hc⟩ := hA j u hj; injection e with e; subst e; simpa using hc)
 have := run_append_grow_src (P := P) W t t ty e i z hu hi hz A n n olds hold (.slice B m cb) m news hsrc (by omega) h63 hfit
 exact ⟨_, _, grownCap_ge _ _ _ _, this⟩
theorem rep_row {ok : Nat → Prop} {A : Option Addr} {n c : Nat} {ex : Bool} {xs : List D} (h : Rep ok W (.slice A n c) (.sl ex xs)) (sz : Nat) (hsz : ∀ x, x ∈ xs → x.cells.length = sz) (h0 : 0 < sz) (hone : ∀ x, x ∈ xs → ∀ y, y ∈ x.cells → y.one = true) :
  n = xs.length ∧ (ex = true → c = xs.length) ∧ (A = none → xs.length = 0) ∧ ∃ vs : List Value, vs.length = xs.length * sz ∧ (∀ (q : Nat) u, vs[q]? = some u → ∃ ad, A = some ad ∧ W.cell? (ad.add q) = some u) ∧ (∀ u, u ∈ vs → u.oneCell' = true) ∧
   ∀ (i j : Nat) x y u, xs[i]? = some x → x.cells[j]? = some y → vs[i * sz + j]? = some u → Rep ok W u y := by
 cases h with
 | sl _ _ _ sz' _ ad hc hm hex hA hs hok hh =>
  have es : ∀ i x, xs[i]? = some x → sz' = sz := fun i x hx => by rw [← hs i x hx, hsz x (List.mem_of_getElem? hx)]
  let vs := (List.range (xs.length * sz)).map fun q => (W.cell? (ad.add q)).getD undef
  have hvl : vs.length = xs.length * sz := by simp [vs]
  have hdiv : ∀ q, q < xs.length * sz → ∃ x y u, xs[q / sz]? = some x ∧ x.cells[q % sz]? = some y ∧ W.cell? (ad.add q) = some u ∧ Rep ok W u y ∧ y.one = true := fun q hq => by
   have hi : q / sz < xs.length := Nat.div_lt_of_lt_mul (by rw [Nat.mul_comm]; exact hq)
   have hx : xs[q / sz]? = some xs[q / sz] := List.getElem?_eq_getElem hi
   have hj : q % sz < xs[q / sz].cells.length := by rw [hsz _ (List.getElem_mem hi)]; exact Nat.mod_lt _ h0
   have hy : xs[q / sz].cells[q % sz]? = some xs[q / sz].cells[q % sz] := List.getElem?_eq_getElem hj
   obtain ⟨_, k2⟩ := hok _ _ _ _ hx hy
   obtain ⟨u, hu⟩ := Option.isSome_iff_exists.1 k2
   have k3 := hh _ _ _ _ u hx hy hu
   rw [es _ _ hx, Nat.mul_comm, Nat.div_add_mod] at hu
   exact ⟨_, _, u, hx, hy, hu, k3, hone _ (List.getElem_mem hi) _ (List.getElem_mem hj)⟩
  have hat : ∀ (q : Nat) u, vs[q]? = some u → q < xs.length * sz ∧ W.cell? (ad.add q) = some u := fun q u hu => by
   have hq : q < xs.length * sz := by rw [← hvl]; exact (List.getElem?_eq_some_iff.1 hu).1
   simp only [vs, List.getElem?_map, List.getElem?_range hq, Option.map_some, Option.some.injEq] at hu
   obtain ⟨x, y, u', _, _, h3, _⟩ := hdiv q hq
   rw [h3] at hu ⊢
   exact ⟨hq, by rw [← hu]; rfl⟩
  have hAA : ∀ q, q < xs.length * sz → A = some ad := fun q hq => hA (by
   rcases Nat.eq_zero_or_pos xs.length with h | h
   ·rw [h] at hq; simp at hq
   ·exact h)
  refine ⟨rfl, hex, fun hn => ?_, vs, hvl, fun q u hu => ⟨ad, hAA q (hat q u hu).1, (hat q u hu).2⟩, fun u hu => ?_, fun i j x y u hx hy hu => ?_⟩
  ·rcases Nat.eq_zero_or_pos xs.length with h | h
   ·exact h
   ·have := hA h; rw [hn] at this; cases this
  ·obtain ⟨q, hq⟩ := List.getElem?_of_mem hu
   obtain ⟨hlt, hc'⟩ := hat q u hq
   obtain ⟨x, y, u', _, _, h3, h4, h5⟩ := hdiv q hlt
   rw [h3] at hc'; injection hc' with hc'; subst hc'
   exact rep_one h4 h5
  ·have := (hat _ u hu).2
   rw [← es i x hx] at this
   exact hh i j x y u hx hy this
theorem s_append {as_ : Array Operand} {ts : Array TypeId} {t e : TypeId} {x y : Operand} {ex : Bool} {xs ys : List D} {z : Value} (hΓ : ∀ W', Below B0 W W' → Γ W → Γ W') (ho : o.op = .call { callee := .builtin .append, args := as_, argTypes := ts }) (has : as_ = #[x, y]) (hts : ts = #[t, t]) (he : elemT P t = some e) (hz : zeroOf P e = some z) (hx : S.eval x = .d (.sl true xs)) (hy : S.eval y = .d (.sl ex ys))
  (hsp : 0 < szOf P e) (hsx : ∀ q, q ∈ xs → q.cells.length = szOf P e) (hsy : ∀ q, q ∈ ys → q.cells.length = szOf P e) (h1x : ∀ q, q ∈ xs → ∀ w, w ∈ q.cells → w.one = true) (h1y : ∀ q, q ∈ ys → ∀ w, w ∈ q.cells → w.one = true) (hp : 0 < ys.length) (h63 : ((xs.length + ys.length : Nat) : Int) ≤ 9223372036854775807) (hfit : Builtin.nextslicecap (xs.length + ys.length) xs.length * bytesOf P e ≤ 281474976710656)
  (h : K (.d (.sl false (xs ++ ys))) S) (r : Rel F Γ B0 W0 N β S a W) (hK : ∀ t S' β' v W', K t S' → Rel F Γ B0 W0 N β' S' a W' → RepT F β' W' v t → Kc (a.put o.dst v) W') : o.wp P a W Kc Q := by
 have hu := elemT_some he
 obtain ⟨i, hinf, hzi, hsi, hbi⟩ := info_of hz
 have rx := r.eval x
 have ry := r.eval y
 rw [hx] at rx
 rw [hy] at ry
 have fx : ∃ A n c, a.eval x = .slice A n c := by generalize a.eval x = v at rx; cases rx; exact ⟨_, _, _, rfl⟩
 have fy : ∃ A n c, a.eval y = .slice A n c := by generalize a.eval y = v at ry; cases ry; exact ⟨_, _, _, rfl⟩
 obtain ⟨A, n, c, ex'⟩ := fx
 obtain ⟨B, m, cb, ey'⟩ := fy
 rw [ex'] at rx
 rw [ey'] at ry
 obtain ⟨hn, hcx, hA0, vs, v1, v2, v3, v4⟩ := rep_row rx (szOf P e) hsx hsp h1x
 obtain ⟨hm, _, hB0, us, u1, u2, u3, u4⟩ := rep_row ry (szOf P e) hsy hsp h1y
 have hc := hcx rfl
 subst hn hm
 rw [hc] at ex'
 rw [hsi] at v1 u1 hsp
 obtain ⟨cap, rest, hcap, hrun⟩ := run_append_exact (P := P) hu hinf hzi W A B vs us xs.length ys.length cb v1 u1 v2 u2 hA0 hB0 u3 hp hsp h63 (by rw [← hbi]; exact hfit) o.type
 have hd : Below W.heap.size W W.drew := (Below.refl _ _).drew
 have rd := r.step hd (hΓ _ (hd.mono r.le) r.gam)
 have hΓ' : ∀ W', Below B0 W.drew W' → Γ W.drew → Γ W' := fun W' hb _ => hΓ W' ((hd.mono r.le).trans hb) r.gam
 have hrow := rd.row hΓ' e ((vs ++ us).toArray ++ rest) (xs ++ ys) i.size cap false (fun q hq => by
   rw [List.mem_append] at hq
   rw [← hsi]
   rcases hq with hq | hq
   ·exact hsx q hq
   ·exact hsy q hq) (by simp [v1, u1, Nat.add_mul]) (by simpa using hcap) (by simp only [List.length_append]; omega) (fun hq => by cases hq) (fun k j q w u hq hw hu' => by
  have hkj : j < i.size := by
   have h5 := (List.getElem?_eq_some_iff.1 hw).1
   have h6 := List.mem_of_getElem? hq
   rw [List.mem_append] at h6
   rw [← hsi]
   rcases h6 with h6 | h6
   ·rw [hsx q h6] at h5; exact h5
   ·rw [hsy q h6] at h5; exact h5
  have hmove : ∀ {u : Value} {w : D}, Rep (Fr F β) W u w → Rep (Fr F β) W.drew u w := fun hh => hh.under hd
  have hlt : k * i.size + j < (vs ++ us).length := by
   have h7 : k < (xs ++ ys).length := (List.getElem?_eq_some_iff.1 hq).1
   simp only [List.length_append, v1, u1] at h7 ⊢
   have : (k + 1) * i.size ≤ (xs.length + ys.length) * i.size := Nat.mul_le_mul_right _ h7
   rw [Nat.add_mul, Nat.add_mul] at this
   omega
  rw [Array.getElem?_append_left (by simpa using hlt)] at hu'
  simp only [List.getElem?_toArray] at hu'
  by_cases hk : k < xs.length
  ·rw [List.getElem?_append_left hk] at hq
   have h8 : (k + 1) * i.size ≤ xs.length * i.size := Nat.mul_le_mul_right _ hk
   rw [Nat.add_mul] at h8
   rw [List.getElem?_append_left (by omega)] at hu'
   exact hmove (v4 k j q w u hq hw (by rw [hsi]; exact hu'))
  ·rw [List.getElem?_append_right (by omega)] at hq
   have h8 : xs.length * i.size ≤ k * i.size := Nat.mul_le_mul_right _ (by omega)
   rw [List.getElem?_append_right (by omega)] at hu'
   refine hmove (u4 (k - xs.length) j q w u hq hw ?_)
   rw [hsi, Nat.sub_mul, ← hu']
   congr 1; omega)
 refine opv (v := .slice (some ⟨W.heap.size, 0, none⟩) (xs.length + ys.length) cap) (W' := W.drew.alloc (.cells ((vs ++ us).toArray ++ rest) e)) ?_ (hK _ _ _ _ _ h hrow.1 ?_)
 ·subst has hts
  simp [execOp, ho, resolve, invoke, builtin, ex', ey', hrun]
 ·have := hrow.2
  rw [List.length_append] at this
  exact this
end
end Go.Proofs.YtijebgceopddmaaDoor.Ax
end
section
set_option linter.unusedVariables false
set_option linter.unusedSimpArgs false
namespace Go.Proofs.YtijebgceopddmaaDoor.Ax
open Go.RowKit
section
variable {P : Program} {C : FuncId → List T → T → Prop} {F : Nat → Prop} {Γ : World → Prop} {B0 N : Nat} {W0 W : World} {β : List (Option Nat)} {S : St} {a : Act} {o : Oper} {K : T → St → Prop} {Kc : Act → World → Prop} {Q : Exit → Act → World → Prop}
theorem Rel.rowAt (r : Rel F Γ B0 W0 N β S a W) {x : Operand} {i n c : Nat} (hx : S.eval x = .row i n c) {e : TypeId} {cs : List D} (hb : S.b[i]? = some (some (e, cs))) :
    ∃ b, β[i]? = some (some b) ∧ a.eval x = .slice (some ⟨b, 0, none⟩) n c ∧ n ≤ c ∧ n ≤ 9223372036854775807 ∧ VarAt F β W b e cs := by
  have hr := r.eval x
  rw [hx] at hr
  obtain ⟨b0, hb0⟩ := r.live i _ hb
  rcases hr with hd | ⟨b, h1, h2, h3, h4⟩
  · rw [hb0] at hd; cases hd
  · exact ⟨b, h1, h2, h3, h4, r.vars i b e cs h1 hb⟩
theorem s_lenRow {as_ : Array Operand} {ts : Array TypeId} {t : TypeId} {x : Operand} {i n c : Nat} {e' : TypeId} {cs : List D} (ho : o.op = .call { callee := .builtin .len, args := as_, argTypes := ts }) (h1 : ts[0]? = some t) (h2 : as_[0]? = some x) (hx : S.eval x = .row i n c) (hb : S.b[i]? = some (some (e', cs))) (ht : (elemT P t).isSome = true)
    (h : (n : Int) ≤ 9223372036854775807 → K (.d (.val (.int .i64 n))) S) (r : Rel F Γ B0 W0 N β S a W) (hK : ∀ t S' β' v W', K t S' → Rel F Γ B0 W0 N β' S' a W' → RepT F β' W' v t → Kc (a.put o.dst v) W') : o.wp P a W Kc Q := by
  obtain ⟨e, he⟩ := Option.isSome_iff_exists.1 ht
  have hu := elemT_some he
  obtain ⟨b, g1, g2, g3, g4, g5⟩ := r.rowAt hx hb
  refine opv (v := .int .i64 n) (W' := W) ?_ (hK _ _ _ _ _ (h (by omega)) r (Rep.val _ rfl))
  simp [execOp, ho, resolve, invoke, builtin, Builtin.len_, h1, h2, g2, run_underlying hu, goInt]
theorem s_indexRow {t : TypeId} {x ix : Operand} {i m c : Nat} {k : IntKind} {n : Int} {e e' : TypeId} {cs : List D} (ho : o.op = .indexAddr t x ix) (hx : S.eval x = .row i m c) (hb : S.b[i]? = some (some (e', cs))) (hi : S.eval ix = .d (.val (.int k n))) (he : elemT P t = some e) (h0 : 0 ≤ n) (hn : n < m) (hsz : szOf P e = 1)
    (h : K (.ptr i n.toNat) S) (r : Rel F Γ B0 W0 N β S a W) (hK : ∀ t S' β' v W', K t S' → Rel F Γ B0 W0 N β' S' a W' → RepT F β' W' v t → Kc (a.put o.dst v) W') : o.wp P a W Kc Q := by
  have hu := elemT_some he
  obtain ⟨inf, hinf, hsi⟩ := info_sz (show 0 < szOf P e by omega)
  obtain ⟨b, g1, g2, g3, g4, g5⟩ := r.rowAt hx hb
  obtain ⟨n, rfl⟩ := Int.eq_ofNat_of_zero_le h0
  have hn' : n < m := by omega
  rw [Int.toNat_natCast] at h
  have hs1 : inf.size = 1 := by rw [← hsi]; exact hsz
  refine opv (v := .pointer (some ⟨b, n, none⟩)) (W' := W) ?_ (hK _ _ _ _ _ h r (.inr ⟨b, g1, rfl⟩))
  simp [execOp, ho, Instr.indexAt, g2, r.val hi, asIntOf, run_underlying hu, sizeOf, typeInfo, hinf, hn', hs1, add_mid]
theorem cell_tree {ok : Nat → Prop} {u : Value} {y : D} (h : Rep ok W u y) (hu : u.oneCell' = true) : y.cells = [y] := by
  cases h with
  | any v => rfl
  | val v h => rfl
  | sl => rfl
  | agg vs cs hl h1 h => cases hu
theorem nodup_set {i : Nat} (r : Rel F Γ B0 W0 N β S a W) {b : Nat} (hi : β[i]? = some (some b)) : some b ∉ β.set i none := fun hm => by
  obtain ⟨j, hj⟩ := List.getElem?_of_mem hm
  by_cases e : i = j
  · subst e
    rw [List.getElem?_set_self (List.getElem?_eq_some_iff.1 hi).1] at hj
    injection hj with hj; cases hj
  · rw [List.getElem?_set_ne e] at hj
    exact e (r.nodup i j b hi hj)
theorem Rel.die (r : Rel F Γ B0 W0 N β S a W) {i b : Nat} (hi : β[i]? = some (some b)) : Rel F Γ B0 W0 N (β.set i none) { S with b := S.b.set i none } a W ∧ Fr F (β.set i none) b ∧ ∀ k, Fr F β k → Fr F (β.set i none) k := by
  have hlt : i < β.length := (List.getElem?_eq_some_iff.1 hi).1
  have hmem : ∀ k, some k ∈ β.set i none → some k ∈ β := fun k hk => by
    obtain ⟨j, hj⟩ := List.getElem?_of_mem hk
    by_cases e : i = j
    · subst e; rw [List.getElem?_set_self hlt] at hj; injection hj with hj; cases hj
    · rw [List.getElem?_set_ne e] at hj; exact List.mem_of_getElem? hj
  have hfr : ∀ k, Fr F β k → Fr F (β.set i none) k := fun k h => ⟨h.1, fun hm => h.2 (hmem k hm)⟩
  have hat : ∀ (j q : Nat), (β.set i none)[j]? = some (some q) → i ≠ j ∧ β[j]? = some (some q) := fun j q hj => by
    by_cases e : i = j
    · subst e; rw [List.getElem?_set_self hlt] at hj; injection hj with hj; cases hj
    · rw [List.getElem?_set_ne e] at hj; exact ⟨e, hj⟩
  refine ⟨⟨r.below, r.le, r.gam, r.foot, r.size, r.defers, fun j k q h1 h2 => r.nodup j k q (hat j q h1).2 (hat k q h2).2, by simp [r.len], fun j x hj => ?_, fun q hq => r.own q (hmem q hq), fun j => ?_, fun j q e cs h1 h2 => ?_⟩, ⟨r.foot b (r.own b (List.mem_of_getElem? hi)).1, nodup_set r hi⟩, hfr⟩
  · by_cases e : i = j
    · subst e
      rw [List.getElem?_set_self (by rw [← r.len]; exact hlt)] at hj; injection hj with hj; cases hj
    · rw [List.getElem?_set_ne e] at hj
      obtain ⟨q, hq⟩ := r.live j x hj
      exact ⟨q, by rw [List.getElem?_set_ne e]; exact hq⟩
  · have hs := r.slots j
    show RepT F (β.set i none) W _ (S.f j)
    revert hs
    generalize S.f j = t
    intro hs
    have hptr : ∀ (q : Nat) (X : Nat → Prop), (β[q]? = some none ∨ ∃ b, β[q]? = some (some b) ∧ X b) → ((β.set i none)[q]? = some none ∨ ∃ b, (β.set i none)[q]? = some (some b) ∧ X b) := fun q X h => by
      by_cases e : i = q
      · subst e; exact .inl (List.getElem?_set_self hlt)
      · rw [List.getElem?_set_ne e]; exact h
    cases t with
    | d x => exact Rep.mono (fun k hk _ => hfr k hk) hs
    | tup ts => obtain ⟨vs, h1, h2, h3⟩ := hs; exact ⟨vs, h1, h2, fun i u y hu hy => (h3 i u y hu hy).mono fun k hk _ => hfr k hk⟩
    | ptr q off => exact hptr q _ hs
    | row q n c => exact hptr q _ hs
    | eptr x =>
      obtain ⟨ad, h1, h2⟩ := hs
      exact ⟨ad, h1, fun j y hy => ⟨hfr _ (h2 j y hy).1, let ⟨u, h3, h4⟩ := (h2 j y hy).2; ⟨u, h3, h4.mono fun k hk _ => hfr k hk⟩⟩⟩
  · obtain ⟨hne, h1⟩ := hat j q h1
    rw [List.getElem?_set_ne hne] at h2
    obtain ⟨cells, g1, g2, g3, g4⟩ := r.vars j q e cs h1 h2
    exact ⟨cells, g1, g2, g3, fun t u y hu hy => (g4 t u y hu hy).mono fun k hk _ => hfr k hk⟩
theorem Rel.data (r : Rel F Γ B0 W0 N β S a W) {i b n c : Nat} {e : TypeId} {cs : List D} (hi : β[i]? = some (some b)) (hb : S.b[i]? = some (some (e, cs))) (hn : n ≤ cs.length) (hc : n ≤ c) (hm : n ≤ 9223372036854775807) : Rep (Fr F (β.set i none)) W (.slice (some ⟨b, 0, none⟩) n c) (.sl false (cs.take n)) := by
  obtain ⟨cells, g1, g2, g3, g4⟩ := r.vars i b e cs hi hb
  obtain ⟨_, hb', hfr⟩ := r.die hi
  have hl : (cs.take n).length = n := by rw [List.length_take]; omega
  have hcell : ∀ j, W.cell? ⟨b, j, none⟩ = cells[j]? := fun j => by simp only [World.cell?, g1]; rfl
  have hone : ∀ (k : Nat) x, (cs.take n)[k]? = some x → ∃ u, cells[k]? = some u ∧ x.cells = [x] ∧ Rep (Fr F (β.set i none)) W u x := fun k x hx => by
    have hk : k < n := by have := (List.getElem?_eq_some_iff.1 hx).1; omega
    rw [List.getElem?_take_of_lt hk] at hx
    have hkc : k < cells.size := by omega
    have hu : cells[k]? = some cells[k] := Array.getElem?_eq_getElem hkc
    have hrep := g4 k _ x hu hx
    exact ⟨_, hu, cell_tree hrep (g3 k _ hu), hrep.mono fun q hq _ => hfr q hq⟩
  have := Rep.sl (ok := Fr F (β.set i none)) (W := W) false (some ⟨b, 0, none⟩) c 1 (cs.take n) ⟨b, 0, none⟩ (by omega) (by omega) (fun h => by cases h) (fun _ => rfl) (fun k x hx => by
    obtain ⟨u, _, h2, _⟩ := hone k x hx; rw [h2]; rfl) (fun k j x y hx hy => by
    obtain ⟨u, h1, h2, _⟩ := hone k x hx
    rw [h2] at hy
    have hj : j = 0 := by have := (List.getElem?_eq_some_iff.1 hy).1; simpa using this
    subst hj
    refine ⟨hb', ?_⟩
    rw [add_mid, hcell, Nat.mul_one, Nat.add_zero, Nat.zero_add, h1]; rfl) (fun k j x y u hx hy hu => by
    obtain ⟨u', h1, h2, h3⟩ := hone k x hx
    rw [h2] at hy
    have hj : j = 0 := by have := (List.getElem?_eq_some_iff.1 hy).1; simpa using this
    subst hj
    simp only [List.getElem?_cons_zero, Option.some.injEq] at hy; subst hy
    rw [add_mid, hcell, Nat.mul_one, Nat.add_zero, Nat.zero_add, h1] at hu
    injection hu with hu; subst hu; exact h3)
  rw [hl] at this
  exact this
theorem s_makeRow {t : TypeId} {l c : Operand} {n : Int} {e : TypeId} {z : Value} (hΓ : ∀ W', Below B0 W W' → Γ W → Γ W') (ho : o.op = .makeSlice t l c) (hl : S.eval l = .d (.val (.int .i64 n))) (hc : S.eval c = .d (.val (.int .i64 n))) (he : elemT P t = some e) (hz : zeroOf P e = some z) (hsz : szOf P e = 1) (hzs : z.cells.size = szOf P e) (hz1 : (ofV z).one = true)
    (h0 : 0 ≤ n) (hn : n ≤ 9223372036854775807) (hb : bytesOf P e * n ≤ 140737488355328) (h : K (.row S.b.length n.toNat n.toNat) { S with b := S.b ++ [some (e, List.replicate n.toNat (ofV z))] }) (r : Rel F Γ B0 W0 N β S a W) (hK : ∀ t S' β' v W', K t S' → Rel F Γ B0 W0 N β' S' a W' → RepT F β' W' v t → Kc (a.put o.dst v) W') : o.wp P a W Kc Q := by
  have hu := elemT_some he
  obtain ⟨i, hinf, hzi, hsi, hbi⟩ := info_of hz
  have el := r.val hl
  have ec := r.val hc
  obtain ⟨n, rfl⟩ := Int.eq_ofNat_of_zero_le h0
  rw [Int.toNat_natCast] at h
  have hrep := rep_ofV (Fr F β) W z
  obtain ⟨k1, k2, k3⟩ := rep_cells hrep (by intro e; rw [e] at hz1; cases hz1)
  have hz11 : z.cells.size = 1 := by omega
  have hcell : ∀ (j : Nat) u, ((Array.range (n * z.cells.size)).map (fun q => z.cells[q % z.cells.size]!))[j]? = some u → z.cells[0]? = some u := fun j u hu => by
    have hj : j < n := by have := (Array.getElem?_eq_some_iff.1 hu).1; simpa [hz11] using this
    have := zeros_at z.cells n j 0 (by omega) hj (by omega)
    rw [hz11, Nat.mul_one, Nat.add_zero, Nat.mul_one] at this
    rw [hz11, Nat.mul_one, this] at hu
    exact hu
  have hnew := r.new hΓ e ((Array.range (n * z.cells.size)).map (fun q => z.cells[q % z.cells.size]!)) (List.replicate n (ofV z)) (by simp [hz11]) (fun j u hu => k2 0 u (hcell j u hu)) (fun j u y hu hy => by
    have hy' : y = ofV z := by
      rw [List.getElem?_replicate] at hy
      split at hy
      · injection hy with hy; exact hy.symm
      · cases hy
    subst hy'
    have hc1 := hcell j u hu
    have ht : (ofV z).cells = [ofV z] := by
      generalize ofV z = w at hz1
      cases w <;> first | rfl | cases hz1
    exact k3 0 u _ hc1 (by rw [ht]; rfl))
  refine opv (v := .slice (some ⟨W.heap.size, 0, none⟩) n n) (W' := W.alloc (.cells ((Array.range (n * z.cells.size)).map (fun q => z.cells[q % z.cells.size]!)) e)) ?_ (hK _ _ _ _ _ h hnew (.inr ⟨W.heap.size, by rw [← r.len, List.getElem?_append_right (Nat.le_refl _)]; simp, rfl, Nat.le_refl _, by omega⟩))
  have hw : IntKind.i64.wrap (n : Int) = n := by unfold IntKind.wrap; simp [IntKind.bits, IntKind.signed]; omega
  have hb2 : (i.bytes : Int) * (n : Int) ≤ 140737488355328 := by rw [← hbi]; exact hb
  simp only [execOp, ho, Instr.makeSlice, el, ec]
  have hb' : ¬ (281474976710656 : Int) < (i.bytes : Int) * (n : Int) := by omega
  have hr : ¬ (140737488355328 : Nat) < n * i.bytes := by
    have : ((i.bytes * n : Nat) : Int) ≤ 140737488355328 := by simpa using hb2
    rw [Nat.mul_comm]; omega
  simp only [hzs, hsi]
  have hlt : ¬ ((n : Int) < 0) := by omega
  by_cases hne : n * i.size = 0
  · simp [run_underlying hu, asInt, asIntOf, sizeOf, typeInfo, hinf, zeroValue, hzi, hw, hb', hlt, askRoom, roomBytes, newRow, newObj, hr, hne]
    have e1 : ∀ f : Nat → Value, Array.map f (Array.range 0) = #[] := fun f => Array.eq_empty_of_size_eq_zero (by simp)
    rw [e1, e1]; rfl
  · simp [run_underlying hu, asInt, asIntOf, sizeOf, typeInfo, hinf, zeroValue, hzi, hw, hb', hlt, askRoom, roomBytes, newRow, newObj, hr, hne, hzs.trans hsi]
    rfl
theorem s_appendRow {as_ : Array Operand} {ts : Array TypeId} {t e : TypeId} {x y : Operand} {i n c : Nat} {ex : Bool} {xs sp ys : List D} {z : Value} (hΓ : ∀ W', Below B0 W W' → Γ W → Γ W') (ho : o.op = .call { callee := .builtin .append, args := as_, argTypes := ts }) (has : as_ = #[x, y]) (hts : ts = #[t, t]) (he : elemT P t = some e) (hz : zeroOf P e = some z)
    (hx : S.eval x = .row i n c) (hb : S.b[i]? = some (some (e, xs ++ sp))) (hxn : xs.length = n) (hc : n + sp.length = c) (hy : S.eval y = .d (.sl ex ys)) (hsz : szOf P e = 1) (hone : ∀ q, q ∈ ys → q.one = true) (hp : 0 < ys.length) (h63 : ((n + ys.length : Nat) : Int) ≤ 9223372036854775807) (hfit : 2 * (n + ys.length) * bytesOf P e ≤ 281474976710656) (hz1 : z.oneCell' = true)
    (h : ∀ j c' sp' b', b'[j]? = some (some (e, xs ++ ys ++ sp')) → n + ys.length + sp'.length = c' → (∀ k, k ≠ i → k < S.b.length → b'[k]? = S.b[k]?) → K (.row j (n + ys.length) c') { S with b := b' })
    (r : Rel F Γ B0 W0 N β S a W) (hK : ∀ t S' β' v W', K t S' → Rel F Γ B0 W0 N β' S' a W' → RepT F β' W' v t → Kc (a.put o.dst v) W') : o.wp P a W Kc Q := by
  have hu := elemT_some he
  have hcl : ∀ q : D, q.one = true → q.cells = [q] := fun q hq => by cases q <;> first | rfl | cases hq
  have hsy : ∀ q, q ∈ ys → q.cells.length = szOf P e := fun q hq => by rw [hcl q (hone q hq), hsz]; rfl
  have h1y : ∀ q, q ∈ ys → ∀ w, w ∈ q.cells → w.one = true := fun q hq w hw => by
    rw [hcl q (hone q hq), List.mem_singleton] at hw; subst hw; exact hone _ hq
  obtain ⟨inf, hinf, hzi, hsi, hbi⟩ := info_of hz
  obtain ⟨b, g1, g2, g3, g4, g5⟩ := r.rowAt hx hb
  obtain ⟨cells, c1, c2, c3, c4⟩ := g5
  have ry := r.eval y
  rw [hy] at ry
  have fy : ∃ A n c, a.eval y = .slice A n c := by generalize a.eval y = v at ry; cases ry; exact ⟨_, _, _, rfl⟩
  obtain ⟨B, m, cb, ey'⟩ := fy
  rw [ey'] at ry
  obtain ⟨hm, _, hB0, us, u1, u2, u3, u4⟩ := rep_row ry (szOf P e) hsy (by omega) h1y
  subst hm
  have hs1 : inf.size = 1 := by rw [← hsi]; exact hsz
  rw [hsz, Nat.mul_one] at u1
  have hcs : cells.size = c := by rw [c2, List.length_append]; omega
  have hcell : ∀ j, W.cell? ⟨b, j, none⟩ = cells[j]? := fun j => by simp only [World.cell?, c1]; rfl
  have hut : ∀ (k : Nat) u w, us[k]? = some u → ys[k]? = some w → Rep (Fr F β) W u w := fun k u w hk hw => by
    exact u4 k 0 w w u hw (by rw [hcl w (hone w (List.mem_of_getElem? hw))]; rfl) (by rw [hsz, Nat.mul_one, Nat.add_zero]; exact hk)
  have hB : ∃ ad, B = some ad := by
    cases B with
    | none => exact absurd (hB0 rfl) (by omega)
    | some ad => exact ⟨ad, rfl⟩
  obtain ⟨ad, rfl⟩ := hB
  have hsrc : Src P inf.size t (.slice (some ad) ys.length cb) ys.length us W :=
    Src.ofSlice W hu ad ys.length cb us (by rw [u1, hs1, Nat.mul_one]) (fun j u hj => by obtain ⟨ad', e, hc⟩ := u2 j u hj; injection e with e; subst e; exact hc) u3
  have hltb : i < S.b.length := (List.getElem?_eq_some_iff.1 hb).1
  by_cases hroom : n + ys.length ≤ c
  · have hrun := run_append_room_src (P := P) (w := W) t t o.type e inf hu hinf b 0 n c (.slice (some ad) ys.length cb) ys.length us hsrc hroom (fun j hj => by
      rw [hcell, hs1, Nat.mul_one, Nat.zero_add, Array.getElem?_eq_getElem (by omega)]; rfl) (fun j hj => by simp [World.frozen?, c1])
    rw [hs1, Nat.mul_one, Nat.zero_add] at hrun
    have r' := r.set hΓ g1 hb (off := n) us ys u1 (by rw [List.length_append]; omega) u3 hut
    have hover : over (xs ++ sp) n ys = xs ++ ys ++ sp.drop ys.length := by
      unfold over
      rw [← hxn, List.take_left, List.drop_append]
      congr 1
      rw [List.drop_eq_nil_of_le (by omega), List.nil_append]; congr 1; omega
    rw [hover] at r'
    refine opv (v := .slice (some ⟨b, 0, none⟩) (n + ys.length) c) (W' := W.setCells b n us) ?_ (hK _ _ _ _ _ (h i c (sp.drop ys.length) _ (List.getElem?_set_self hltb) (by rw [List.length_drop]; omega) (fun k hk _ => List.getElem?_set_ne (fun e => hk e.symm))) r' (.inr ⟨b, g1, rfl, hroom, by omega⟩))
    subst has hts
    simp [execOp, ho, resolve, invoke, builtin, g2, ey', hrun]
  · have hd : Below W.heap.size W W.drew := (Below.refl _ _).drew
    have hlen : (cells.toList.take n).length = n := by rw [List.length_take, Array.length_toList]; omega
    have hrun := run_append_grow_src (P := P) W t t o.type e inf z hu hinf hzi (some ⟨b, 0, none⟩) n c (cells.toList.take n) (run_firstCells_some (P := P) W.drew inf.size n ⟨b, 0, none⟩ n c (cells.toList.take n) (by rw [hlen, hs1, Nat.mul_one]) (fun j u hj => by
      have hjn : j < n := by have := (List.getElem?_eq_some_iff.1 hj).1; omega
      rw [List.getElem?_take_of_lt hjn] at hj
      rw [add_mid, Nat.zero_add]
      show W.cell? ⟨b, j, none⟩ = _
      rw [hcell]; simpa using hj)) (.slice (some ad) ys.length cb) ys.length us hsrc (by omega) h63 (by
      have h1 := nextslicecap_le (need := n + ys.length) (old := c) (by omega)
      rw [← hbi]
      exact Nat.le_trans (Nat.mul_le_mul_right _ h1) hfit)
    generalize hcap : grownCap W (n + ys.length) c e = cap at hrun
    have hge : n + ys.length ≤ cap := by rw [← hcap]; exact grownCap_ge _ _ _ _
    have rd := r.step hd (hΓ _ (hd.mono r.le) r.gam)
    have hΓ' : ∀ W', Below B0 W.drew W' → Γ W.drew → Γ W' := fun W' hb _ => hΓ W' ((hd.mono r.le).trans hb) r.gam
    have hzc : z.cells = #[z] := by cases z <;> first | rfl | cases hz1
    have hzsize : (Builtin.zeroCells z.cells (cap - (n + ys.length))).size = cap - (n + ys.length) := by simp [Builtin.zeroCells, hzc]
    have hzone : ∀ u, u ∈ Builtin.zeroCells z.cells (cap - (n + ys.length)) → u = z := fun u hu => by
      simp only [Builtin.zeroCells, hzc, Array.mem_map] at hu
      obtain ⟨q, _, rfl⟩ := hu
      simp [Nat.mod_one]
    have hnew := rd.new hΓ' e (((cells.toList.take n) ++ us).toArray ++ Builtin.zeroCells z.cells (cap - (n + ys.length))) (xs ++ ys ++ List.replicate (cap - (n + ys.length)) .any) (by
      simp only [Array.size_append, List.size_toArray, List.length_append, List.length_replicate, hlen, u1, hzsize]; omega) (fun j u hj => by
      rw [Array.getElem?_append] at hj
      split at hj
      · simp only [List.getElem?_toArray] at hj
        rcases List.mem_append.1 (List.mem_of_getElem? hj) with hm | hm
        · obtain ⟨q, hq⟩ := List.getElem?_of_mem (List.mem_of_mem_take hm)
          exact c3 q u (by simpa using hq)
        · exact u3 u hm
      · rw [hzone u (Array.mem_of_getElem? hj)]; exact hz1) (fun j u y' hj hy' => by
      have hsize : (((cells.toList.take n) ++ us).toArray).size = n + ys.length := by simp [hlen, u1]
      by_cases h1 : j < n + ys.length
      · rw [Array.getElem?_append_left (by rw [hsize]; exact h1)] at hj
        simp only [List.getElem?_toArray] at hj
        rw [List.getElem?_append_left (by rw [List.length_append, hxn]; exact h1)] at hy'
        by_cases h2 : j < n
        · rw [List.getElem?_append_left (by rw [hlen]; exact h2), List.getElem?_take_of_lt h2] at hj
          rw [List.getElem?_append_left (by rw [hxn]; exact h2)] at hy'
          exact (c4 j u y' (by simpa using hj) (by rw [List.getElem?_append_left (by rw [hxn]; exact h2)]; exact hy')).under hd
        · rw [List.getElem?_append_right (by rw [hlen]; omega), hlen] at hj
          rw [List.getElem?_append_right (by rw [hxn]; omega), hxn] at hy'
          exact (hut (j - n) u y' hj hy').under hd
      · rw [List.getElem?_append_right (by rw [List.length_append, hxn]; omega)] at hy'
        rw [List.getElem?_replicate] at hy'
        split at hy'
        · injection hy' with hy'; subst hy'; exact Rep.any _
        · cases hy')
    refine opv (v := .slice (some ⟨W.heap.size, 0, none⟩) (n + ys.length) cap) (W' := W.drew.alloc (.cells (((cells.toList.take n) ++ us).toArray ++ Builtin.zeroCells z.cells (cap - (n + ys.length))) e)) ?_ (hK _ _ _ _ _ (h S.b.length cap (List.replicate (cap - (n + ys.length)) .any) _ (by rw [List.getElem?_append_right (Nat.le_refl _)]; simp) (by rw [List.length_replicate]; omega) (fun k _ hk => List.getElem?_append_left hk)) hnew (.inr ⟨W.heap.size, by rw [← r.len, List.getElem?_append_right (Nat.le_refl _)]; simp, rfl, hge, by omega⟩))
    subst has hts
    simp [execOp, ho, resolve, invoke, builtin, g2, ey', hrun]
theorem s_appendNew {as_ : Array Operand} {ts : Array TypeId} {t e : TypeId} {x y : Operand} {ex : Bool} {xs ys : List D} {z : Value} (hΓ : ∀ W', Below B0 W W' → Γ W → Γ W') (ho : o.op = .call { callee := .builtin .append, args := as_, argTypes := ts }) (has : as_ = #[x, y]) (hts : ts = #[t, t]) (he : elemT P t = some e) (hz : zeroOf P e = some z)
    (hx : S.eval x = .d (.sl true xs)) (hy : S.eval y = .d (.sl ex ys)) (hsz : szOf P e = 1) (honex : ∀ q, q ∈ xs → q.one = true) (hone : ∀ q, q ∈ ys → q.one = true) (hp : 0 < ys.length) (h63 : ((xs.length + ys.length : Nat) : Int) ≤ 9223372036854775807) (hfit : 2 * (xs.length + ys.length) * bytesOf P e ≤ 281474976710656) (hz1 : z.oneCell' = true)
    (h : ∀ c' sp', xs.length + ys.length + sp'.length = c' → K (.row S.b.length (xs.length + ys.length) c') { S with b := S.b ++ [some (e, xs ++ ys ++ sp')] })
    (r : Rel F Γ B0 W0 N β S a W) (hK : ∀ t S' β' v W', K t S' → Rel F Γ B0 W0 N β' S' a W' → RepT F β' W' v t → Kc (a.put o.dst v) W') : o.wp P a W Kc Q := by
  have hu := elemT_some he
  have hcl : ∀ q : D, q.one = true → q.cells = [q] := fun q hq => by cases q <;> first | rfl | cases hq
  have hs' : ∀ l : List D, (∀ q, q ∈ l → q.one = true) → ∀ q, q ∈ l → q.cells.length = szOf P e := fun l h q hq => by rw [hcl q (h q hq), hsz]; rfl
  have h1' : ∀ l : List D, (∀ q, q ∈ l → q.one = true) → ∀ q, q ∈ l → ∀ w, w ∈ q.cells → w.one = true := fun l h q hq w hw => by
    rw [hcl q (h q hq), List.mem_singleton] at hw; subst hw; exact h _ hq
  obtain ⟨inf, hinf, hzi, hsi, hbi⟩ := info_of hz
  have rx := r.eval x
  have ry := r.eval y
  rw [hx] at rx
  rw [hy] at ry
  have fx : ∃ A n c, a.eval x = .slice A n c := by generalize a.eval x = v at rx; cases rx; exact ⟨_, _, _, rfl⟩
  have fy : ∃ A n c, a.eval y = .slice A n c := by generalize a.eval y = v at ry; cases ry; exact ⟨_, _, _, rfl⟩
  obtain ⟨A, n, c, ex'⟩ := fx
  obtain ⟨B, m, cb, ey'⟩ := fy
  rw [ex'] at rx
  rw [ey'] at ry
  obtain ⟨hn, hcx, hA0, vs, v1, v2, v3, v4⟩ := rep_row rx (szOf P e) (hs' xs honex) (by omega) (h1' xs honex)
  obtain ⟨hm, _, hB0, us, u1, u2, u3, u4⟩ := rep_row ry (szOf P e) (hs' ys hone) (by omega) (h1' ys hone)
  have hc := hcx rfl
  subst hn hm
  rw [hc] at ex'
  have hs1 : inf.size = 1 := by rw [← hsi]; exact hsz
  rw [hsz, Nat.mul_one] at u1 v1
  have hut : ∀ (k : Nat) u w, us[k]? = some u → ys[k]? = some w → Rep (Fr F β) W u w := fun k u w hk hw => by
    exact u4 k 0 w w u hw (by rw [hcl w (hone w (List.mem_of_getElem? hw))]; rfl) (by rw [hsz, Nat.mul_one, Nat.add_zero]; exact hk)
  have hvt : ∀ (k : Nat) u w, vs[k]? = some u → xs[k]? = some w → Rep (Fr F β) W u w := fun k u w hk hw => by
    exact v4 k 0 w w u hw (by rw [hcl w (honex w (List.mem_of_getElem? hw))]; rfl) (by rw [hsz, Nat.mul_one, Nat.add_zero]; exact hk)
  have hB : ∃ ad, B = some ad := by
    cases B with
    | none => exact absurd (hB0 rfl) (by omega)
    | some ad => exact ⟨ad, rfl⟩
  obtain ⟨ad, rfl⟩ := hB
  have hsrc : Src P inf.size t (.slice (some ad) ys.length cb) ys.length us W :=
    Src.ofSlice W hu ad ys.length cb us (by rw [u1, hs1, Nat.mul_one]) (fun j u hj => by obtain ⟨ad', e, hc⟩ := u2 j u hj; injection e with e; subst e; exact hc) u3
  have hd : Below W.heap.size W W.drew := (Below.refl _ _).drew
  have hold : (Builtin.firstCells inf.size xs.length (.slice A xs.length xs.length)).run P W.drew = .ok vs.toArray W.drew := by
    cases A with
    | none =>
      have h0 := hA0 rfl
      have : vs = [] := List.eq_nil_of_length_eq_zero (by omega)
      rw [h0, this]
      simp [Builtin.firstCells]
    | some ad' => exact run_firstCells_some (P := P) W.drew inf.size xs.length ad' xs.length xs.length vs (by rw [v1, hs1, Nat.mul_one]) (fun j u hj => by obtain ⟨ad2, e, hc⟩ := v2 j u hj; injection e with e; subst e; simpa using hc)
  have hrun := run_append_grow_src (P := P) W t t o.type e inf z hu hinf hzi A xs.length xs.length vs hold (.slice (some ad) ys.length cb) ys.length us hsrc (by omega) h63 (by
    have h1 := nextslicecap_le (need := xs.length + ys.length) (old := xs.length) (by omega)
    rw [← hbi]
    exact Nat.le_trans (Nat.mul_le_mul_right _ h1) hfit)
  generalize hcap : grownCap W (xs.length + ys.length) xs.length e = cap at hrun
  have hge : xs.length + ys.length ≤ cap := by rw [← hcap]; exact grownCap_ge _ _ _ _
  have rd := r.step hd (hΓ _ (hd.mono r.le) r.gam)
  have hΓ' : ∀ W', Below B0 W.drew W' → Γ W.drew → Γ W' := fun W' hb _ => hΓ W' ((hd.mono r.le).trans hb) r.gam
  have hzc : z.cells = #[z] := by cases z <;> first | rfl | cases hz1
  have hzsize : (Builtin.zeroCells z.cells (cap - (xs.length + ys.length))).size = cap - (xs.length + ys.length) := by simp [Builtin.zeroCells, hzc]
  have hzone : ∀ u, u ∈ Builtin.zeroCells z.cells (cap - (xs.length + ys.length)) → u = z := fun u hu => by
    simp only [Builtin.zeroCells, hzc, Array.mem_map] at hu
    obtain ⟨q, _, rfl⟩ := hu
    simp [Nat.mod_one]
  have hnew := rd.new hΓ' e ((vs ++ us).toArray ++ Builtin.zeroCells z.cells (cap - (xs.length + ys.length))) (xs ++ ys ++ List.replicate (cap - (xs.length + ys.length)) .any) (by
    simp only [Array.size_append, List.size_toArray, List.length_append, List.length_replicate, v1, u1, hzsize]) (fun j u hj => by
    rw [Array.getElem?_append] at hj
    split at hj
    · simp only [List.getElem?_toArray] at hj
      rcases List.mem_append.1 (List.mem_of_getElem? hj) with hm | hm
      · exact v3 u hm
      · exact u3 u hm
    · rw [hzone u (Array.mem_of_getElem? hj)]; exact hz1) (fun j u y' hj hy' => by
    have hsize : ((vs ++ us).toArray).size = xs.length + ys.length := by simp [v1, u1]
    by_cases h1 : j < xs.length + ys.length
    · rw [Array.getElem?_append_left (by rw [hsize]; exact h1)] at hj
      simp only [List.getElem?_toArray] at hj
      rw [List.getElem?_append_left (by rw [List.length_append]; exact h1)] at hy'
      by_cases h2 : j < xs.length
      · rw [List.getElem?_append_left (by rw [v1]; exact h2)] at hj
        rw [List.getElem?_append_left h2] at hy'
        exact (hvt j u y' hj hy').under hd
      · rw [List.getElem?_append_right (by rw [v1]; omega), v1] at hj
        rw [List.getElem?_append_right (by omega)] at hy'
        exact (hut (j - xs.length) u y' hj hy').under hd
    · rw [List.getElem?_append_right (by rw [List.length_append]; omega)] at hy'
      rw [List.getElem?_replicate] at hy'
      split at hy'
      · injection hy' with hy'; subst hy'; exact Rep.any _
      · cases hy')
  refine opv (v := .slice (some ⟨W.heap.size, 0, none⟩) (xs.length + ys.length) cap) (W' := W.drew.alloc (.cells ((vs ++ us).toArray ++ Builtin.zeroCells z.cells (cap - (xs.length + ys.length))) e)) ?_ (hK _ _ _ _ _ (h cap (List.replicate (cap - (xs.length + ys.length)) .any) (by rw [List.length_replicate]; omega)) hnew (.inr ⟨W.heap.size, by rw [← r.len, List.getElem?_append_right (Nat.le_refl _)]; simp, rfl, hge, by omega⟩))
  subst has hts
  simp [execOp, ho, resolve, invoke, builtin, ex', ey', hrun]
end
end Go.Proofs.YtijebgceopddmaaDoor.Ax
end
section
set_option linter.unusedVariables false
set_option linter.unusedSimpArgs false
namespace Go.Proofs.YtijebgceopddmaaDoor.Ax
open Go.RowKit
theorem exists_least {p : Nat → Prop} (h : ∃ n, p n) : ∃ n, p n ∧ ∀ m, p m → n ≤ m := by
 obtain ⟨n, hn⟩ := h
 induction n using Nat.strongRecOn with
 | _ n ih =>
  by_cases hm : ∃ m, m < n ∧ p m
  ·obtain ⟨m, h1, h2⟩ := hm; exact ih m h1 h2
  ·exact ⟨n, hn, fun m h => Nat.le_of_not_lt fun hlt => hm ⟨m, hlt, h⟩⟩
theorem known_ne {x : D} (h : x.known = true) : x ≠ .any := by intro e; subst e; cases h
section
variable {P : Program} {C : FuncId → List T → T → Prop} {F : Nat → Prop} {Γ : World → Prop} {B0 N : Nat} {W0 W : World} {β : List (Option Nat)} {S : St} {a : Act} {o : Oper} {K : T → St → Prop} {Kc : Act → World → Prop} {Q : Exit → Act → World → Prop}
theorem op_sound (hΓ : ∀ W W', Below B0 W W' → Γ W → Γ W') (hC : ∀ f ts r, C f ts r → Spec P Γ f ts r) (h : awpOp P C o S K) (r : Rel F Γ B0 W0 N β S a W) (hK : ∀ t S' β' v W', K t S' → Rel F Γ B0 W0 N β' S' a W' → RepT F β' W' v t → Kc (a.put o.dst v) W') : o.wp P a W Kc Q := by
 unfold awpOp at h
 split at h
 ·rename_i x ho; exact s_move ho h r hK
 ·rename_i x ho; exact s_assign ho h r hK
 ·rename_i c x y ho
  split at h
  ·rename_i b hb; exact s_pick ho hb h r hK
  ·exact h.elim
 ·rename_i x i ho
  split at h
  ·rename_i ts hx
   split at h
   ·rename_i t hi; exact s_extract ho hx hi h r hK
   ·exact h.elim
  ·exact h.elim
 ·rename_i op t x y yt ho
  split at h
  ·rename_i k m k' n hx hy
   obtain ⟨rfl, v, hv, h⟩ := h
   exact s_int ho hx hy hv h r hK
  ·rename_i m n hx hy
   obtain ⟨ht, v, hv, h⟩ := h
   exact s_bool ho ht hx hy hv h r hK
  ·exact h.elim
 ·rename_i t x ho
  split at h
  ·rename_i b hb; exact s_not ho hb h r hK
  ·exact h.elim
 ·rename_i t n ps ho
  split at h
  ·rename_i e he
   obtain ⟨hz, h1, h2, h3, h4, h5⟩ := h
   obtain ⟨z, hz⟩ := Option.isSome_iff_exists.1 hz
   rw [List.all_eq_true] at h4
   refine s_buildSlice (hΓ W) ho he hz h1 h2 h3 ?_ (fun x hx => by have := h4 x hx; simp at this; exact this.2) (fun x hx => by have := h4 x hx; simp at this; exact known_ne this.1) h5 r hK
   rw [List.map_map]
   refine List.map_congr_left fun p hp => ?_
   have := h4 (toD (S.eval p.2)) (List.mem_map.2 ⟨p, hp, rfl⟩)
   simp only [Bool.and_eq_true] at this
   show S.eval p.2 = T.d (toD (S.eval p.2))
   cases he : S.eval p.2 with
   | d x => rfl
   | tup ts => rw [he] at this; cases this.1
   | ptr i off => rw [he] at this; cases this.1
   | eptr x => rw [he] at this; cases this.1
   | row i n c => rw [he] at this; cases this.1
  ·exact h.elim
 ·rename_i t l c ho
  split at h
  ·rename_i e n m he hl hc
   obtain ⟨rfl, z, hz, h1, h2, h3, h4, h5, h6, h7, h8⟩ := h
   rcases h8 with h8 | ⟨g1, g2, h8⟩
   ·exact s_makeSlice (hΓ W) ho hl hc he hz h1 h2 (known_ne h3) h4 h5 h6 h7 h8 r hK
   ·exact s_makeRow (hΓ W) ho hl hc he hz g1 h2 g2 h5 h6 h7 h8 r hK
  ·exact h.elim
 ·rename_i t ho
  split at h
  ·rename_i z hz; exact s_alloc (hΓ W) ho hz h.1 h.2 r hK
  ·exact h.elim
 ·rename_i t x ho
  split at h
  ·rename_i y hy; exact s_box (hΓ W) ho hy (known_ne h.1) h.2 r hK
  ·exact h.elim
 ·rename_i t p x ho
  split at h
  ·rename_i i off y hp hy
   obtain ⟨e, cs, h1, h2, h3, h4, h5, h6⟩ := h
   exact s_store (hΓ W) ho hp h1 hy (known_ne h2) h3 h4 h5 h6 r hK
  ·exact h.elim
 ·rename_i t p ho
  unfold awpLoad at h
  split at h
  ·rename_i i off ht hp
   obtain ⟨e, cs, h1, h2, h3, h4⟩ := h
   exact s_load_varAgg ho ht hp h1 h2 h3 h4 r hK
  ·rename_i i off ht hp
   obtain ⟨e, cs, y, h1, h2, h3⟩ := h
   exact s_load_var ho ht hp h1 h2 h3 r hK
  ·rename_i x ht hp
   exact s_load_val ho ht hp h.1 h.2 r hK
  ·rename_i cs ht hp
   obtain ⟨h1, h2, h3, h4⟩ := h
   exact s_load_agg ho ht hp h1 h2 h3 h4 r hK
  ·exact h.elim
 ·rename_i t x f ho
  split at h
  ·rename_i q ft i off hf hx; exact s_fieldAddr ho hf hx h.1.choose_spec h.2 r hK
  ·exact h.elim
 ·rename_i t x i ho
  unfold awpIndex at h
  split at h
  ·rename_i e ex xs k n ht hx hi
   obtain ⟨h1, h2, h3, h4, h5⟩ := h
   exact s_indexAddr ho hx hi (by unfold elemT; rw [ht]) h1 h2 h3 h4 h5 r hK
  ·rename_i l e j off k n ht hx hi
   obtain ⟨h1, h2, h3, ⟨lv, hlv⟩, h4⟩ := h
   exact s_indexArr ho ht hx hlv hi h1 h2 h3 h4 r hK
  ·rename_i e j m c k n ht hx hi
   obtain ⟨h1, h2, h3, ⟨⟨e', cs⟩, hlv⟩, h4⟩ := h
   exact s_indexRow ho hx hlv hi (by unfold elemT; rw [ht]) h1 h2 h3 h4 r hK
  ·exact h.elim
 ·rename_i t x lo hi mx ho
  split at h
  ·rename_i e ex xs he hx
   obtain ⟨l, q, h1, h2, h3, h4, h5, h6, h7, h8⟩ := h
   refine s_slice ho hx he h6 h7 ?_ ?_ ?_ h4 h5 h8 r hK
   ·cases lo with
    | none => simp only [bound, Option.some.injEq] at h1; omega
    | some p =>
     simp only [bound] at h1
     split at h1
     ·rename_i k n hn; injection h1 with h1; subst h1; exact ⟨_, hn⟩
     ·cases h1
   ·cases hi with
    | none =>
     simp only [bound, Option.some.injEq] at h2
     refine ⟨by omega, ?_⟩
     cases mx with
     | none => rfl
     | some _ => have := (h3 rfl).1; cases this
    | some p =>
     simp only [bound] at h2
     split at h2
     ·rename_i k n hn; injection h2 with h2; subst h2; exact ⟨_, hn⟩
     ·cases h2
   ·cases mx with
    | none => trivial
    | some p =>
     have h3 := (h3 rfl).2
     simp only [bound] at h3
     split at h3
     ·rename_i k n hn; injection h3 with h3; subst h3; exact ⟨_, hn⟩
     ·cases h3
  ·exact h.elim
 ·rename_i c ho
  obtain ⟨cal, as_, ts⟩ := c
  split at h
  ·rename_i f hf
   obtain ⟨res, h1, h2⟩ := h
   simp only at hf; subst hf
   exact s_call (hΓ W) ho (hC _ _ _ h1) h2 r hK
  ·rename_i b hb
   simp only at hb h; subst hb
   unfold awpBuiltin at h
   split at h
   ·split at h
    ·rename_i t ex xs h1 h2
     cases hq : as_[0]? with
     | none => rw [hq] at h2; cases h2
     | some p => rw [hq] at h2; injection h2 with h2; exact s_len ho h1 hq h2 h.1 h.2 r hK
    ·rename_i t i n c h1 h2
     obtain ⟨g1, ⟨⟨e', cs⟩, hlv⟩, g2⟩ := h
     cases hq : as_[0]? with
     | none => rw [hq] at h2; cases h2
     | some p => rw [hq] at h2; injection h2 with h2; exact s_lenRow ho h1 hq h2 hlv g1 g2 r hK
    ·exact h.elim
   ·rcases h with ⟨x, y, t, e, z, xs, ex, ys, h1, h2, h3, h4, h5, h6, h7, h8, h9, h10, h11, h12, h13, h14, h15⟩ | ⟨x, y, t, e, z, xs, ex, ys, h1, h2, h3, h4, h5, h6, h7, h8, h9, h10, h11, h12, h13, h14⟩ | ⟨x, y, t, e, z, i, n, c, xs, sp, ex, ys, h1, h2, h3, h4, h5, h6, h7, h8, h9, h10, h11, h12, h13, h14, h15, h16⟩
    ·exact s_append (hΓ W) ho h1 h2 h3 h4 h5 h6 h7 h8 h9 h10 h11 h12 h13 h14 h15 r hK
    ·exact s_appendNew (hΓ W) ho h1 h2 h3 h4 h5 h6 h7 h8 h9 h10 h11 h12 h13 h14 r hK
    ·exact s_appendRow (hΓ W) ho h1 h2 h3 h4 h5 h6 h7 h8 h9 h10 h11 h12 h13 h14 h15 h16 r hK
   ·exact h.elim
  ·exact h.elim
 ·exact h.elim
end
def dstOk (N : Nat) : Option Nat → Prop
 | some d => d < N
 | none => True
def awpOps (P : Program) (C : FuncId → List T → T → Prop) (N : Nat) (ops : Array Oper) : List Oper → St → (St → Prop) → Prop
 | [], S, K => K S
 | o :: rest, S, K => match o.guard with
  | none => awpOp P C o S fun t S' => dstOk N o.dst ∧ awpOps P C N ops rest (S'.putO o.dst t) K
  | some (j, want) => match (ops[j]?).bind (·.dst) with
   | some d => d < N ∧ match S.f d with
    | .d (.val (.bool b)) => (b = want → awpOp P C o S fun t S' => dstOk N o.dst ∧ awpOps P C N ops rest (S'.putO o.dst t) K) ∧ (b ≠ want → dstOk N o.dst ∧ awpOps P C N ops rest (S.putO o.dst (.d .any)) K)
    | _ => False
   | none => False
section
variable {P : Program} {C : FuncId → List T → T → Prop} {F : Nat → Prop} {Γ : World → Prop} {B0 N : Nat} {W0 : World}
theorem Rel.putO {W : World} {β : List (Option Nat)} {S : St} {a : Act} (r : Rel F Γ B0 W0 N β S a W) {d : Option Nat} (hd : dstOk N d) {v : Value} {t : T} (h : RepT F β W v t) : Rel F Γ B0 W0 N β (S.putO d t) (a.put d v) W := by
 cases d with
 | none => exact r
 | some d => exact r.put hd h
theorem ops_sound (hΓ : ∀ W W', Below B0 W W' → Γ W → Γ W') (hC : ∀ f ts r, C f ts r → Spec P Γ f ts r) {ops : Array Oper} {Q : Exit → Act → World → Prop} {K : St → Prop} (hK : ∀ S β a W, K S → Rel F Γ B0 W0 N β S a W → Q .normal a W) :
  ∀ (l : List Oper) (S : St) (β : List (Option Nat)) (a : Act) (W : World), awpOps P C N ops l S K → Rel F Γ B0 W0 N β S a W → wpList P ops Q l a W
 | [], S, β, a, W, h, r => hK S β a W h r
 | o :: rest, S, β, a, W, h, r => by
  have ih := ops_sound hΓ hC (ops := ops) hK rest
  have run : ∀ K' : T → St → Prop, (∀ t S', K' t S' → dstOk N o.dst ∧ awpOps P C N ops rest (S'.putO o.dst t) K) → awpOp P C o S K' → o.wp P a W (wpList P ops Q rest) Q := fun K' hK' h =>
   op_sound hΓ hC h r fun t S' β' v W' hk r' hv => ih _ β' _ W' (hK' t S' hk).2 (r'.putO (hK' t S' hk).1 hv)
  unfold awpOps at h
  split at h
  ·rename_i hg
   have hw : Region.wanted o (yielded ops a.tmps) = true := by unfold Region.wanted; rw [hg]
   simp only [wpList, hw, if_true]
   exact .inl (run _ (fun t S' hk => hk) h)
  ·rename_i j want hg
   split at h
   ·rename_i d hd
    obtain ⟨hdN, h⟩ := h
    split at h
    ·rename_i b hb
     have hs := r.slots d
     rw [hb] at hs
     have hv : a.tmps.getD d undef = .bool b := rep_int hs
     have hlt : d < a.tmps.size := by rw [r.size]; exact hdN
     have hy : yielded ops a.tmps j = some b := by
      unfold yielded
      rw [hd]
      rw [Array.getD_eq_getD_getElem?, Array.getElem?_eq_getElem hlt, Option.getD_some] at hv
      simp [hlt, hv]
     have hw : Region.wanted o (yielded ops a.tmps) = (b == want) := by
      unfold Region.wanted; rw [hg]; simp only [hy]; cases b <;> cases want <;> rfl
     by_cases hbw : b = want
     ·simp only [wpList, hw, hbw, beq_self_eq_true, if_true]
      exact .inl (run _ (fun t S' hk => hk) (h.1 hbw))
     ·have : (b == want) = false := by simpa using hbw
      simp only [wpList, hw, this, Bool.false_eq_true, if_false]
      exact ih _ β _ W (h.2 hbw).2 (r.putO (h.2 hbw).1 (Rep.any _))
    ·exact h.elim
   ·exact h.elim
end
end Go.Proofs.YtijebgceopddmaaDoor.Ax
end
section
set_option linter.unusedVariables false
set_option linter.unusedSimpArgs false
namespace Go.Proofs.YtijebgceopddmaaDoor.Ax
open Go.RowKit
def opnds : Go.Op → List Operand
 | .move x => [x]
 | .assign x => [x]
 | .pick c x y => [c, x, y]
 | .extract x _ => [x]
 | .binOp _ _ x y _ => [x, y]
 | .unOp _ _ x => [x]
 | .buildSlice _ _ ps => ps.toList.map (·.2)
 | .makeSlice _ l c => [l, c]
 | .box _ x => [x]
 | .store _ p x => [p, x]
 | .load _ p => [p]
 | .fieldAddr _ x _ => [x]
 | .indexAddr _ x i => [x, i]
 | .slice _ x lo hi mx => x :: (lo.toList ++ hi.toList ++ mx.toList)
 | .call c => c.args.toList
 | _ => []
def memOp : Go.Op → Bool
 | .alloc _ | .box _ _ | .store _ _ _ | .load _ _ | .fieldAddr _ _ _ | .indexAddr _ _ _ | .makeSlice _ _ _ => true
 | .call c => match c.callee with
  | .builtin _ => true
  | _ => false
 | _ => false
section
variable {P : Program} {C : FuncId → List T → T → Prop} {N : Nat} {S S' : St} {K K' : T → St → Prop}
theorem bound_move {d : Nat} {o : Option Operand} (h : ∀ x, x ∈ o.toList → S'.eval x = S.eval x) : bound S' d o = bound S d o := by
 cases o with
 | none => rfl
 | some x => simp only [bound, h x (by simp)]
theorem awpOp_move {o : Oper} (h : awpOp P C o S K) (he : ∀ x, x ∈ opnds o.op → S'.eval x = S.eval x) (hb : memOp o.op = true → S'.b = S.b)
  (hK : ∀ t B, (memOp o.op = false → B = S.b) → K t { S with b := B } → K' t { S' with b := if memOp o.op = true then B else S'.b }) : awpOp P C o S' K' := by
 obtain ⟨dst, op, ty, pos, after, guard⟩ := o
 have k0 : memOp op = false → ∀ t, K t S → K' t S' := fun hm t hk => by
  have := hK t S.b (fun _ => rfl) hk
  simp only [hm] at this; exact this
 have k1 : memOp op = true → ∀ t B, K t { S with b := B } → K' t { S' with b := B } := fun hm t B hk => by
  have := hK t B (fun h => by simp only [hm] at h; cases h) hk
  simp only [hm, if_true] at this; exact this
 have k2 : memOp op = true → ∀ t, K t S → K' t S' := fun hm t hk => by
  have h1 := k1 hm t S.b hk
  rw [← hb hm] at h1; exact h1
 clear hK
 cases op <;> (try (exact (show False from h).elim)) <;> simp only [opnds] at he <;> simp only [awpOp] at h ⊢
 case move x => rw [he x (by simp)]; exact k0 rfl _ h
 case assign x => rw [he x (by simp)]; exact k0 rfl _ h
 case pick c x y =>
  rw [he c (by simp), he x (by simp), he y (by simp)]
  split at h
  ·exact k0 rfl _ h
  ·exact h.elim
 case extract x i =>
  rw [he x (by simp)]
  split at h
  ·split at h
   ·exact k0 rfl _ h
   ·exact h.elim
  ·exact h.elim
 case binOp op t x y yt =>
  rw [he x (by simp), he y (by simp)]
  split at h
  ·obtain ⟨h1, v, h2, h3⟩ := h; exact ⟨h1, v, h2, k0 rfl _ h3⟩
  ·obtain ⟨h1, v, h2, h3⟩ := h; exact ⟨h1, v, h2, k0 rfl _ h3⟩
  ·exact h.elim
 case unOp op t x =>
  cases op <;> (try (exact (show False from h).elim))
  simp only at h ⊢
  rw [he x (by simp)]
  split at h
  ·exact k0 rfl _ h
  ·exact h.elim
 case buildSlice t n ps =>
  have e : (ps.toList.map fun p => toD (S'.eval p.2)) = (ps.toList.map fun p => toD (S.eval p.2)) := List.map_congr_left fun p hp => by rw [he p.2 (List.mem_map.2 ⟨p, hp, rfl⟩)]
  rw [e]
  split at h
  ·obtain ⟨h1, h2, h3, h4, h5, h6⟩ := h; exact ⟨h1, h2, h3, h4, h5, k0 rfl _ h6⟩
  ·exact h.elim
 case makeSlice t l c =>
  rw [he l (by simp), he c (by simp), hb rfl]
  split at h
  ·obtain ⟨h0, z, h1, h2, h3, h4, h5, h6, h7, h8, h9⟩ := h
   refine ⟨h0, z, h1, h2, h3, h4, h5, h6, h7, h8, ?_⟩
   exact h9.imp (k2 rfl _) fun ⟨g1, g2, g3⟩ => ⟨g1, g2, k1 rfl _ _ g3⟩
  ·exact h.elim
 case alloc t =>
  rw [hb rfl]
  split at h
  ·exact ⟨h.1, k1 rfl _ _ h.2⟩
  ·exact h.elim
 case box t x =>
  rw [he x (by simp), hb rfl]
  split at h
  ·exact ⟨h.1, k1 rfl _ _ h.2⟩
  ·exact h.elim
 case store t p x =>
  rw [he p (by simp), he x (by simp), hb rfl]
  split at h
  ·obtain ⟨e, cs, h1, h2, h3, h4, h5, h6⟩ := h; exact ⟨e, cs, h1, h2, h3, h4, h5, k1 rfl _ _ h6⟩
  ·exact h.elim
 case load t p =>
  rw [he p (by simp)]
  have k2 := k2 rfl
  unfold awpLoad at h ⊢
  rw [hb rfl]
  split at h
  ·obtain ⟨e, cs, h1, h2, h3, h4⟩ := h; exact ⟨e, cs, h1, h2, h3, k2 _ h4⟩
  ·obtain ⟨e, cs, y, h1, h2, h3⟩ := h; exact ⟨e, cs, y, h1, h2, k2 _ h3⟩
  ·exact ⟨h.1, k2 _ h.2⟩
  ·exact ⟨h.1, h.2.1, h.2.2.1, k2 _ h.2.2.2⟩
  ·exact h.elim
 case fieldAddr t x f =>
  rw [he x (by simp), hb rfl]
  split at h
  ·exact ⟨h.1, k2 rfl _ h.2⟩
  ·exact h.elim
 case indexAddr t x i =>
  rw [he x (by simp), he i (by simp)]
  unfold awpIndex at h ⊢
  rw [hb rfl]
  split at h
  ·obtain ⟨h1, h2, h3, h4, h5⟩ := h; exact ⟨h1, h2, h3, h4, k2 rfl _ h5⟩
  ·obtain ⟨h1, h2, h3, h4, h5⟩ := h; exact ⟨h1, h2, h3, h4, k2 rfl _ h5⟩
  ·obtain ⟨h1, h2, h3, h4, h5⟩ := h; exact ⟨h1, h2, h3, h4, k2 rfl _ h5⟩
  ·exact h.elim
 case slice t x lo hi mx =>
  have h1 : ∀ d, bound S' d lo = bound S d lo := fun d => bound_move fun x hx => he x (by simp [hx])
  have h2 : ∀ d, bound S' d hi = bound S d hi := fun d => bound_move fun x hx => he x (by simp [hx])
  have h3 : ∀ d, bound S' d mx = bound S d mx := fun d => bound_move fun x hx => he x (by simp [hx])
  rw [he x (by simp)]
  simp only [h1, h2, h3]
  split at h
  ·obtain ⟨l, q, g1, g2, g3, g4, g5, g6, g7, g8⟩ := h; exact ⟨l, q, g1, g2, g3, g4, g5, g6, g7, k0 rfl _ g8⟩
  ·exact h.elim
 case call c =>
  obtain ⟨callee, as_, ts⟩ := c
  cases callee with
  | value v =>
   cases v with
   | func f =>
    obtain ⟨r, h1, h2⟩ := h
    refine ⟨r, ?_, k0 rfl _ h2⟩
    have e : as_.toList.map S'.eval = as_.toList.map S.eval := List.map_congr_left fun x hx => he x hx
    rw [e]; exact h1
   | _ => exact h.elim
  | builtin b =>
   simp only at h ⊢
   unfold awpBuiltin at h ⊢
   rw [hb rfl]
   split at h
   ·have e : (as_[0]?).map S'.eval = (as_[0]?).map S.eval := by
     cases hq : as_[0]? with
     | none => rfl
     | some q =>
      simp only [Option.map_some]
      rw [he q]
      rw [← Array.getElem?_toList] at hq
      exact List.mem_of_getElem? hq
    rw [e]
    split at h
    ·exact ⟨h.1, fun hl => k2 rfl _ (h.2 hl)⟩
    ·exact ⟨h.1, h.2.1, fun hl => k2 rfl _ (h.2.2 hl)⟩
    ·exact h.elim
   ·rcases h with ⟨x, y, t, e, z, xs, ex, ys, h1, h2, h3, h4, h5, h6, h7, h8, h9, h10, h11, h12, h13, h14, h15⟩ | ⟨x, y, t, e, z, xs, ex, ys, h1, h2, h3, h4, h5, h6, h7, h8, h9, h10, h11, h12, h13, h14⟩ | ⟨x, y, t, e, z, i, n, c, xs, sp, ex, ys, h1, h2, h3, h4, h5, h6, h7, h8, h9, h10, h11, h12, h13, h14, h15, h16⟩
    ·have hx : S'.eval x = S.eval x := he x (by rw [h1]; simp)
     have hy : S'.eval y = S.eval y := he y (by rw [h1]; simp)
     exact .inl ⟨x, y, t, e, z, xs, ex, ys, h1, h2, h3, h4, by rw [hx]; exact h5, by rw [hy]; exact h6, h7, h8, h9, h10, h11, h12, h13, h14, k2 rfl _ h15⟩
    ·have hx : S'.eval x = S.eval x := he x (by rw [h1]; simp)
     have hy : S'.eval y = S.eval y := he y (by rw [h1]; simp)
     refine .inr (.inl ⟨x, y, t, e, z, xs, ex, ys, h1, h2, h3, h4, by rw [hx]; exact h5, by rw [hy]; exact h6, h7, h8, h9, h10, h11, h12, h13, fun c' sp' hc => ?_⟩)
     rw [hb rfl]; exact k1 rfl _ _ (h14 c' sp' hc)
    ·have hx : S'.eval x = S.eval x := he x (by rw [h1]; simp)
     have hy : S'.eval y = S.eval y := he y (by rw [h1]; simp)
     refine .inr (.inr ⟨x, y, t, e, z, i, n, c, xs, sp, ex, ys, h1, h2, h3, h4, by rw [hx]; exact h5, by rw [hb rfl]; exact h6, h7, h8, by rw [hy]; exact h9, h10, h11, h12, h13, h14, h15, fun j c' sp' b' g1 g2 g3 => ?_⟩)
     exact k1 rfl _ _ (h16 j c' sp' b' g1 g2 (fun k hk1 hk2 => by rw [← hb rfl]; exact g3 k hk1 (by rw [hb rfl]; exact hk2)))
   ·exact h.elim
  | _ => exact h.elim
end
def memW : Go.Op → Bool
 | .alloc _ | .box _ _ | .store _ _ _ | .makeSlice _ _ _ => true
 | .call c => match c.callee with
  | .builtin b => match b with
   | .append => true
   | _ => false
  | _ => false
 | _ => false
theorem memW_memOp {op : Go.Op} (h : memW op = true) : memOp op = true := by
 cases op <;> first | rfl | cases h | skip
 rename_i c
 obtain ⟨callee, as_, ts⟩ := c
 cases callee <;> first | rfl | cases h
def gslot (ops : Array Oper) (o : Oper) : List Tmp := match o.guard with
 | some (g, _) => ((ops[g]?).bind (·.dst)).toList
 | none => []
def looks (ops : Array Oper) (o : Oper) : List Tmp := ((opnds o.op).filterMap fun x => match x with | .tmp t => some t | _ => none) ++ gslot ops o
abbrev Out := T × List (Option (TypeId × List D))
def St.did (S : St) (o : Oper) (r : Out) : St := { S.putO o.dst r.1 with b := r.2 }
section
variable {P : Program} {C : FuncId → List T → T → Prop} {N : Nat}
theorem putO_b (S : St) (d : Option Nat) (t : T) : (S.putO d t).b = S.b := by cases d <;> rfl
theorem putO_at (S : St) (d : Nat) (t : T) : (S.putO (some d) t).f d = t := if_pos rfl
theorem putO_ne {S : St} {d : Option Nat} {t : T} {i : Nat} (h : d ≠ some i) : (S.putO d t).f i = S.f i := by
 cases d with
 | none => rfl
 | some d => exact if_neg (fun e => h (by rw [e]))
theorem did_b (S : St) (o : Oper) (r : Out) : (S.did o r).b = r.2 := rfl
theorem St.ext' {S X : St} (hf : ∀ i, S.f i = X.f i) (hb : S.b = X.b) : S = X := by
 cases S; cases X; simp only at hf hb; rw [hb, funext hf]
theorem one_move {ops : Array Oper} {o : Oper} {S X : St} {r : Out} (h : awpOps P C N ops [o] S (fun S1 => S1 = S.did o r)) (hm : memW o.op = false → r.2 = S.b)
  (he : ∀ t, t ∈ looks ops o → X.f t = S.f t) (hb : memOp o.op = true → X.b = S.b) : awpOps P C N ops [o] X (fun S1 => S1 = X.did o (r.1, if memW o.op = true then r.2 else X.b)) := by
 have hev : ∀ x, x ∈ opnds o.op → X.eval x = S.eval x := fun x hx => by
  cases x with
  | tmp t => exact he t (List.mem_append_left _ (List.mem_filterMap.2 ⟨_, hx, rfl⟩))
  | const v => rfl
  | global g => rfl
  | func f => rfl
 have key : (awpOp P C o S fun t S' => dstOk N o.dst ∧ awpOps P C N ops [] (S'.putO o.dst t) (fun S1 => S1 = S.did o r)) → awpOp P C o X fun t S' => dstOk N o.dst ∧ awpOps P C N ops [] (S'.putO o.dst t) (fun S1 => S1 = X.did o (r.1, if memW o.op = true then r.2 else X.b)) := fun h =>
  awpOp_move h hev hb fun t B hB hk => by
   obtain ⟨hd, hk⟩ := hk
   have hk : St.putO { S with b := B } o.dst t = S.did o r := hk
   refine ⟨hd, ?_⟩
   show St.putO { X with b := if memOp o.op = true then B else X.b } o.dst t = X.did o (r.1, if memW o.op = true then r.2 else X.b)
   have hkb : B = r.2 := by
    have := congrArg St.b hk
    rw [putO_b] at this; exact this
   refine St.ext' (fun i => ?_) ?_
   ·show (St.putO _ o.dst t).f i = (X.putO o.dst r.1).f i
    cases hdst : o.dst with
    | none => rfl
    | some d =>
     have ht : t = r.1 := by
      have := congrFun (congrArg St.f hk) d
      rw [hdst, putO_at] at this
      rw [this]
      show (S.putO o.dst r.1).f d = r.1
      rw [hdst, putO_at]
     rw [ht]; rfl
   ·rw [putO_b]
    show (if memOp o.op = true then B else X.b) = if memW o.op = true then r.2 else X.b
    by_cases h1 : memW o.op = true
    ·rw [if_pos h1, if_pos (memW_memOp h1), hkb]
    ·rw [if_neg h1]
     by_cases h2 : memOp o.op = true
     ·rw [if_pos h2, hkb, hm (by simpa using h1), hb h2]
     ·rw [if_neg h2]
 unfold awpOps at h ⊢
 cases hg : o.guard with
 | none => rw [hg] at h; exact key h
 | some g =>
  obtain ⟨j, want⟩ := g
  rw [hg] at h
  simp only at h ⊢
  cases hj : (ops[j]?).bind (·.dst) with
  | none => rw [hj] at h; exact h.elim
  | some d =>
   rw [hj] at h
   simp only at h ⊢
   refine ⟨h.1, ?_⟩
   have hX : X.f d = S.f d := he d (List.mem_append_right _ (by unfold gslot; rw [hg]; simp only; rw [hj]; simp))
   rw [hX]
   have h2 := h.2
   split at h2
   ·rename_i b hbv
    refine ⟨fun hw => key (h2.1 hw), fun hw => ⟨(h2.2 hw).1, ?_⟩⟩
    have hk : S.putO o.dst (.d .any) = S.did o r := (h2.2 hw).2
    show X.putO o.dst (.d .any) = X.did o (r.1, if memW o.op = true then r.2 else X.b)
    have hkb : S.b = r.2 := by
     have := congrArg St.b hk
     rw [putO_b] at this; exact this
    refine St.ext' (fun i => ?_) ?_
    ·show (X.putO o.dst _).f i = (X.putO o.dst r.1).f i
     cases hdst : o.dst with
     | none => rfl
     | some d =>
      have ht : T.d .any = r.1 := by
       have := congrFun (congrArg St.f hk) d
       rw [hdst, putO_at] at this
       rw [this]
       show (S.putO o.dst r.1).f d = r.1
       rw [hdst, putO_at]
      rw [ht]
    ·rw [putO_b]
     show X.b = if memW o.op = true then r.2 else X.b
     by_cases h1 : memW o.op = true
     ·rw [if_pos h1, ← hkb, hb (memW_memOp h1)]
     ·rw [if_neg h1]
   ·exact h2.elim
end
def seqS (ops : Array Oper) (τ : Nat → Out) (S : St) : Nat → St
 | 0 => S
 | i + 1 => match ops[i]? with
  | some o => (seqS ops τ S i).did o (τ i)
  | none => seqS ops τ S i
def parS (ops : Array Oper) (τ : Nat → Out) (S : St) (L : Nat → Bool) : Nat → St
 | 0 => S
 | i + 1 => match L i, ops[i]? with
  | true, some o => (parS ops τ S L i).did o ((τ i).1, if memW o.op = true then (τ i).2 else (parS ops τ S L i).b)
  | _, _ => parS ops τ S L i
section
variable {ops : Array Oper} {τ : Nat → Out} {S : St} {L : Nat → Bool} {n : Nat}
theorem seq_succ {i : Nat} {o : Oper} (h : ops[i]? = some o) : seqS ops τ S (i + 1) = (seqS ops τ S i).did o (τ i) := by simp only [seqS, h]
theorem par_true {i : Nat} {o : Oper} (h : ops[i]? = some o) (hL : L i = true) : parS ops τ S L (i + 1) = (parS ops τ S L i).did o ((τ i).1, if memW o.op = true then (τ i).2 else (parS ops τ S L i).b) := by simp only [parS, h, hL]
theorem par_false {i : Nat} (hL : L i = false) : parS ops τ S L (i + 1) = parS ops τ S L i := by simp only [parS, hL]
theorem did_ne {S : St} {o : Oper} {r : Out} {i : Nat} (h : o.dst ≠ some i) : (S.did o r).f i = S.f i := putO_ne h
theorem did_at {S X : St} {o : Oper} {r r' : Out} {i : Nat} (h : o.dst = some i) (hr : r.1 = r'.1) : (S.did o r).f i = (X.did o r').f i := by
 show (S.putO o.dst r.1).f i = (X.putO o.dst r'.1).f i
 rw [h, putO_at, putO_at, hr]
theorem par_slot (hn : n = ops.size) {s : Nat} : ∀ k, k ≤ n → (∀ j o, j < k → ops[j]? = some o → o.dst = some s → L j = true) → (parS ops τ S L k).f s = (seqS ops τ S k).f s
 | 0, _, _ => rfl
 | k + 1, hk, h => by
  have ih := par_slot hn k (by omega) fun j o hj => h j o (by omega)
  have hko : ops[k]? = some ops[k] := Array.getElem?_eq_getElem (by omega)
  rw [seq_succ hko]
  by_cases hd : (ops[k]).dst = some s
  ·rw [par_true hko (h k _ (by omega) hko hd)]
   exact did_at hd rfl
  ·rw [did_ne hd, ← ih]
   cases hL : L k with
   | true => rw [par_true hko hL, did_ne hd]
   | false => rw [par_false hL]
theorem par_slot_stop (hn : n = ops.size) {s i : Nat} : ∀ k, i ≤ k → k ≤ n → (∀ j o, i ≤ j → j < k → ops[j]? = some o → o.dst = some s → L j = false) → (parS ops τ S L k).f s = (parS ops τ S L i).f s
 | 0, hi, _, _ => by
  have e : i = 0 := by omega
  subst e; rfl
 | k + 1, hi, hk, h => by
  by_cases e : i = k + 1
  ·rw [e]
  ·have ih := par_slot_stop hn k (by omega) (by omega) fun j o h1 h2 => h j o h1 (by omega)
   rw [← ih]
   have hko : ops[k]? = some ops[k] := Array.getElem?_eq_getElem (by omega)
   cases hL : L k with
   | false => rw [par_false hL]
   | true =>
    rw [par_true hko hL]
    refine did_ne fun hd => ?_
    have := h k _ (by omega) (by omega) hko hd
    rw [hL] at this; cases this
theorem par_mem (hn : n = ops.size) (hτ : ∀ i o, ops[i]? = some o → memW o.op = false → (τ i).2 = (seqS ops τ S i).b) : ∀ k, k ≤ n → (∀ j o, j < k → ops[j]? = some o → memW o.op = true → L j = true) → (parS ops τ S L k).b = (seqS ops τ S k).b
 | 0, _, _ => rfl
 | k + 1, hk, h => by
  have ih := par_mem hn hτ k (by omega) fun j o hj => h j o (by omega)
  have hko : ops[k]? = some ops[k] := Array.getElem?_eq_getElem (by omega)
  rw [seq_succ hko]
  show _ = (τ k).2
  by_cases hm : memW (ops[k]).op = true
  ·rw [par_true hko (h k _ (by omega) hko hm)]
   show (if _ then _ else _) = _
   rw [if_pos hm]
  ·rw [hτ k _ hko (by simpa using hm), ← ih]
   cases hL : L k with
   | true => rw [par_true hko hL]; show (if _ then _ else _) = _; rw [if_neg hm]
   | false => rw [par_false hL]
theorem par_mem_stop (hn : n = ops.size) {i : Nat} : ∀ k, i ≤ k → k ≤ n → (∀ j o, i ≤ j → j < k → ops[j]? = some o → memW o.op = true → L j = false) → (parS ops τ S L k).b = (parS ops τ S L i).b
 | 0, hi, _, _ => by
  have e : i = 0 := by omega
  subst e; rfl
 | k + 1, hi, hk, h => by
  by_cases e : i = k + 1
  ·rw [e]
  ·have ih := par_mem_stop hn k (by omega) (by omega) fun j o h1 h2 => h j o h1 (by omega)
   rw [← ih]
   have hko : ops[k]? = some ops[k] := Array.getElem?_eq_getElem (by omega)
   cases hL : L k with
   | false => rw [par_false hL]
   | true =>
    rw [par_true hko hL]
    show (if _ then _ else _) = _
    by_cases hm : memW (ops[k]).op = true
    ·have := h k _ (by omega) (by omega) hko hm
     rw [hL] at this; cases this
    ·rw [if_neg hm]
theorem par_all (hn : n = ops.size) (hτ : ∀ i o, ops[i]? = some o → memW o.op = false → (τ i).2 = (seqS ops τ S i).b) (hL : ∀ i, i < n → L i = true) : parS ops τ S L n = seqS ops τ S n :=
 St.ext' (fun s => par_slot hn n (Nat.le_refl _) fun j o hj _ _ => hL j hj) (par_mem hn hτ n (Nat.le_refl _) fun j o hj _ _ => hL j hj)
theorem par_none (hL : ∀ i, L i = false) : ∀ k, parS ops τ S L k = S
 | 0 => rfl
 | k + 1 => by rw [par_false (hL k)]; exact par_none hL k
def also (L : Nat → Bool) (i : Nat) : Nat → Bool := fun j => if j = i then true else L j
theorem par_low {L L' : Nat → Bool} : ∀ k, (∀ j, j < k → L' j = L j) → parS ops τ S L' k = parS ops τ S L k
 | 0, _ => rfl
 | k + 1, h => by
  have ih := par_low k fun j hj => h j (by omega)
  simp only [parS, h k (by omega), ih]
theorem par_also (hn : n = ops.size) {i : Nat} {o : Oper} (ho : ops[i]? = some o) (hL : L i = false) (hlater : ∀ j p, i < j → ops[j]? = some p → L j = true → (∀ s, o.dst = some s → p.dst ≠ some s) ∧ (memW o.op = true → memW p.op = false)) :
  ∀ k, i < k → k ≤ n → parS ops τ S (also L i) k = (parS ops τ S L k).did o ((τ i).1, if memW o.op = true then (τ i).2 else (parS ops τ S L k).b)
 | 0, hi, _ => by omega
 | k + 1, hi, hk => by
  by_cases e : k = i
  ·subst e
   rw [par_true ho (by simp [also]), par_false hL, par_low k fun j hj => by simp only [also]; rw [if_neg (by omega)]]
  ·have ih := par_also hn ho hL hlater k (by omega) (by omega)
   have hko : ops[k]? = some ops[k] := Array.getElem?_eq_getElem (by omega)
   have ha : also L i k = L k := by simp only [also]; rw [if_neg e]
   cases hLk : L k with
   | false => rw [par_false (by rw [ha, hLk]), par_false hLk]; exact ih
   | true =>
    obtain ⟨h1, h2⟩ := hlater k _ (by omega) hko hLk
    rw [par_true hko (by rw [ha, hLk]), par_true hko hLk, ih]
    refine St.ext' (fun s => ?_) ?_
    ·by_cases hs : (ops[k]).dst = some s
     ·have hos : o.dst ≠ some s := fun h => h1 s h hs
      rw [did_ne hos]; exact did_at hs rfl
     ·rw [did_ne hs]
      by_cases hos : o.dst = some s
      ·exact did_at hos rfl
      ·rw [did_ne hos, did_ne hos, did_ne hs]
    ·simp only [did_b]
     by_cases hm : memW o.op = true
     ·have hm2 := h2 hm
      simp only [hm, hm2, if_true, if_false, Bool.false_eq_true]
     ·have hm' : memW o.op = false := by simpa using hm
      simp only [hm', if_false, Bool.false_eq_true]
end
def preds (o : Oper) : List Nat := (o.after.toList.filter fun e => Region.binds .any e).map (·.on)
def maskStep (acc : List Nat) (o : Oper) : List Nat := acc ++ [(preds o).foldl (fun a p => a ||| (1 <<< p) ||| acc.getD p 0) 0]
def masks (l : List Oper) : List Nat := l.foldl maskStep []
def hits (d : Option Tmp) (l : List Tmp) : Bool := match d with | some t => l.contains t | none => false
def conf (ops : Array Oper) (x y : Oper) : Bool := hits x.dst (looks ops y) || hits y.dst (looks ops x) || hits x.dst y.dst.toList || (memW x.op && memOp y.op) || (memOp x.op && memW y.op)
def okD (ops : Array Oper) : Bool :=
 let B := masks ops.toList
 (List.range ops.size).all fun j => match ops[j]? with
  | none => false
  | some o => (preds o).all (· < j) && ((List.range ops.size).all fun i => !(B.getD j 0).testBit i || (preds o).any fun p => p == i || (B.getD p 0).testBit i) &&
   (List.range j).all fun i => match ops[i]? with
    | none => false
    | some x => !conf ops x o || (B.getD j 0).testBit i
theorem hits_some {t : Tmp} {l : List Tmp} (h : t ∈ l) : hits (some t) l = true := by simpa [hits] using h
structure OkD (ops : Array Oper) (B : List Nat) : Prop where
 low : ∀ (j : Nat) o p, ops[j]? = some o → p ∈ preds o → p < j
 back : ∀ (j : Nat) o i, ops[j]? = some o → i < ops.size → (B.getD j 0).testBit i = true → ∃ p, p ∈ preds o ∧ (p = i ∨ (B.getD p 0).testBit i = true)
 wait : ∀ (i j : Nat) x o, i < j → ops[i]? = some x → ops[j]? = some o → conf ops x o = true → (B.getD j 0).testBit i = true
theorem okD_spec {ops : Array Oper} (h : okD ops = true) : OkD ops (masks ops.toList) := by
 unfold okD at h
 rw [List.all_eq_true] at h
 have hj : ∀ (j : Nat) o, ops[j]? = some o → _ := fun j o ho => by
  have hlt : j < ops.size := (Array.getElem?_eq_some_iff.1 ho).1
  have := h j (List.mem_range.2 hlt)
  rw [ho] at this
  simp only [Bool.and_eq_true] at this
  exact this
 refine ⟨fun j o p ho hp => ?_, fun j o i ho hi hb => ?_, fun i j x o hij hx ho hc => ?_⟩
 ·have := (hj j o ho).1.1
  rw [List.all_eq_true] at this
  simpa using this p hp
 ·have := (hj j o ho).1.2
  rw [List.all_eq_true] at this
  have h2 := this i (List.mem_range.2 hi)
  rw [hb] at h2
  simp only [Bool.not_true, Bool.false_or, List.any_eq_true, Bool.or_eq_true, beq_iff_eq] at h2
  exact h2
 ·have := (hj j o ho).2
  rw [List.all_eq_true] at this
  have h2 := this i (List.mem_range.2 hij)
  rw [hx] at h2
  simp only [hc, Bool.not_true, Bool.false_or] at h2
  exact h2
theorem closed_mask {ops : Array Oper} {B : List Nat} (k : OkD ops B) {L : Nat → Bool} (hcl : ∀ (j : Nat) o p, ops[j]? = some o → L j = true → p ∈ preds o → L p = true) :
  ∀ (j : Nat) o i, ops[j]? = some o → i < ops.size → (B.getD j 0).testBit i = true → (∀ p, p ∈ preds o → L p = true) → L i = true := by
 intro j
 induction j using Nat.strongRecOn with
 | _ j ih =>
  intro o i ho hi hb hp
  obtain ⟨p, hpm, he⟩ := k.back j o i ho hi hb
  rcases he with rfl | he
  ·exact hp _ hpm
  ·have hpj := k.low j o p ho hpm
   have hjlt : j < ops.size := (Array.getElem?_eq_some_iff.1 ho).1
   have hpo : ops[p]? = some ops[p] := Array.getElem?_eq_getElem (by omega)
   exact ih p hpj _ i hpo hi he fun q hq => hcl p _ q hpo (hp p hpm) hq
def un (L : Nat → Bool) : Nat → Nat
 | 0 => 0
 | k + 1 => un L k + if L k = true then 0 else 1
theorem un_low {L L' : Nat → Bool} : ∀ k, (∀ j, j < k → L' j = L j) → un L' k = un L k
 | 0, _ => rfl
 | k + 1, h => by simp only [un, un_low k fun j hj => h j (by omega), h k (by omega)]
theorem un_also {L : Nat → Bool} {i : Nat} (hL : L i = false) : ∀ k, i < k → un (also L i) k + 1 = un L k
 | 0, h => by omega
 | k + 1, h => by
  by_cases e : k = i
  ·subst e
   simp only [un]
   rw [un_low (L := L) (L' := also L k) k fun j hj => by simp only [also]; rw [if_neg (by omega)]]
   rw [if_pos (by simp [also]), hL]; simp
  ·have ih := un_also hL k (by omega)
   have ha : also L i k = L k := by simp only [also]; rw [if_neg e]
   simp only [un, ha]; omega
theorem un_zero {L : Nat → Bool} : ∀ k, un L k = 0 → ∀ i, i < k → L i = true
 | 0, _, i, hi => by omega
 | k + 1, h, i, hi => by
  simp only [un] at h
  by_cases e : i = k
  ·subst e
   by_cases hL : L i = true
   ·exact hL
   ·rw [if_neg hL] at h; omega
  ·exact un_zero k (by omega) i (by omega)
section
variable {P : Program} {C : FuncId → List T → T → Prop} {F : Nat → Prop} {Γ : World → Prop} {B0 N : Nat} {W0 : World} {ops : Array Oper} {τ : Nat → Out} {S : St}
def lst (listed : Array Bool) (i : Nat) : Bool := listed.getD i false
theorem ready_mem {listed : Array Bool} {i : Nat} (h : i ∈ Region.ready .any ops listed) : i < ops.size ∧ listed.getD i true = false ∧ ∃ o, ops[i]? = some o ∧ ∀ p, p ∈ preds o → lst listed p = true := by
 unfold Region.ready at h
 rw [List.mem_filter] at h
 obtain ⟨h1, h2⟩ := h
 have hi := List.mem_range.1 h1
 have ho : ops[i]? = some ops[i] := Array.getElem?_eq_getElem hi
 simp only [Bool.and_eq_true, Bool.not_eq_true', ho, Option.map_some, Option.getD_some] at h2
 refine ⟨hi, h2.1, _, ho, fun p hp => ?_⟩
 unfold preds at hp
 rw [List.mem_map] at hp
 obtain ⟨e, he, rfl⟩ := hp
 rw [List.mem_filter] at he
 have h3 := h2.2
 rw [Array.all_eq_true'] at h3
 have h4 := h3 e (by simpa using he.1)
 rw [he.2] at h4
 simpa [lst] using h4
theorem ready_of {listed : Array Bool} {i : Nat} {o : Oper} (ho : ops[i]? = some o) (hL : listed.getD i true = false) (hp : ∀ p, p ∈ preds o → lst listed p = true) : i ∈ Region.ready .any ops listed := by
 have hi : i < ops.size := (Array.getElem?_eq_some_iff.1 ho).1
 unfold Region.ready
 rw [List.mem_filter]
 refine ⟨List.mem_range.2 hi, ?_⟩
 simp only [Bool.and_eq_true, Bool.not_eq_true', ho, Option.map_some, Option.getD_some]
 refine ⟨hL, ?_⟩
 rw [Array.all_eq_true']
 intro e he
 by_cases hb : Region.binds .any e = true
 ·rw [hb]
  have := hp e.on (List.mem_map.2 ⟨e, List.mem_filter.2 ⟨by simpa using he, hb⟩, rfl⟩)
  simpa [lst] using this
 ·simp [hb]
theorem drawn_any {B : List Nat} (k : OkD ops B) (hΓ : ∀ W W', Below B0 W W' → Γ W → Γ W') (hC : ∀ f ts r, C f ts r → Spec P Γ f ts r)
  (hτ : ∀ (i : Nat) o, ops[i]? = some o → memW o.op = false → (τ i).2 = (seqS ops τ S i).b)
  (hone : ∀ (i : Nat) o, ops[i]? = some o → awpOps P C N ops [o] (seqS ops τ S i) fun S1 => S1 = (seqS ops τ S i).did o (τ i))
  {Q : Exit → Act → World → Prop} (hQ : ∀ β a W, Rel F Γ B0 W0 N β (seqS ops τ S ops.size) a W → Q .normal a W) :
  ∀ (fuel : Nat) (listed : Array Bool) (a : Act) (W : World) (β : List (Option Nat)), listed.size = ops.size → un (lst listed) ops.size ≤ fuel → (∀ (j : Nat) o p, ops[j]? = some o → lst listed j = true → p ∈ preds o → lst listed p = true) →
   Rel F Γ B0 W0 N β (parS ops τ S (lst listed) ops.size) a W → wpAny P .any ops Q fuel listed a W := by
 have hdone : ∀ (listed : Array Bool) (a : Act) (W : World) (β : List (Option Nat)), listed.size = ops.size → (∀ i, i < ops.size → lst listed i = true) → Rel F Γ B0 W0 N β (parS ops τ S (lst listed) ops.size) a W → Region.ready .any ops listed = [] ∧ Q .normal a W := by
  intro listed a W β hsz hall r
  refine ⟨?_, hQ β a W (by rw [par_all rfl hτ hall] at r; exact r)⟩
  rw [List.eq_nil_iff_forall_not_mem]
  intro i hi
  obtain ⟨h1, h2, _⟩ := ready_mem hi
  have h3 := hall i h1
  unfold lst at h3
  have hlt : i < listed.size := by omega
  simp only [Array.getD_eq_getD_getElem?, Array.getElem?_eq_getElem hlt, Option.getD_some] at h2 h3
  rw [h2] at h3; cases h3
 have hnone : ∀ (listed : Array Bool), listed.size = ops.size → Region.ready .any ops listed = [] → ∀ i, i < ops.size → lst listed i = true := by
  intro listed hsz hr i
  induction i using Nat.strongRecOn with
  | _ i ih =>
   intro hi
   have ho : ops[i]? = some ops[i] := Array.getElem?_eq_getElem hi
   cases hL : lst listed i with
   | true => rfl
   | false =>
    have hlt : i < listed.size := by omega
    have hm : i ∈ Region.ready .any ops listed := ready_of ho (by
     unfold lst at hL
     simp only [Array.getD_eq_getD_getElem?, Array.getElem?_eq_getElem hlt, Option.getD_some] at hL ⊢
     exact hL) fun p hp => ih p (k.low i _ p ho hp) (by have := k.low i _ p ho hp; omega)
    rw [hr] at hm; cases hm
 intro fuel
 induction fuel with
 | zero =>
  intro listed a W β hsz hun hcl r
  exact hdone listed a W β hsz (un_zero _ (by omega)) r
 | succ fuel ih =>
  intro listed a W β hsz hun hcl r
  refine ⟨fun hr => (hdone listed a W β hsz (hnone listed hsz hr) r).2, fun i hi => ?_⟩
  obtain ⟨hin, hLi, o, ho, hp⟩ := ready_mem hi
  have hlt : i < listed.size := by omega
  have hLf : lst listed i = false := by
   unfold lst
   simp only [Array.getD_eq_getD_getElem?, Array.getElem?_eq_getElem hlt, Option.getD_some] at hLi ⊢
   exact hLi
  have halso : lst (listed.setIfInBounds i true) = also (lst listed) i := by
   funext j
   unfold lst also
   simp only [Array.getD_eq_getD_getElem?, Array.getElem?_setIfInBounds]
   by_cases e : j = i
   ·subst e; simp [hlt]
   ·rw [if_neg (fun h => e h.symm), if_neg e]
  have hprev : ∀ (q : Nat) x, ops[q]? = some x → q < i → conf ops x o = true → lst listed q = true := fun q x hx hqi hc =>
   closed_mask k hcl i o q ho (by omega) (k.wait q i x o hqi hx ho hc) hp
  have hnext : ∀ (q : Nat) x, ops[q]? = some x → i < q → conf ops o x = true → lst listed q = false := fun q x hx hiq hc => by
   cases hq : lst listed q with
   | false => rfl
   | true =>
    have := closed_mask k hcl q x i hx hin (k.wait i q o x hiq ho hx hc) fun p hp => hcl q x p hx hq hp
    rw [hLf] at this; cases this
  -- what the operation looks at is as_ in the order of the text
  have heq : ∀ t, t ∈ looks ops o → (parS ops τ S (lst listed) ops.size).f t = (seqS ops τ S i).f t := fun t ht => by
   rw [par_slot_stop rfl (i := i) ops.size (by omega) (Nat.le_refl _) fun q x h1 h2 hx hd => ?_]
   ·refine par_slot rfl i (by omega) fun q x hq hx hd => hprev q x hx hq ?_
    unfold conf; rw [hd, hits_some ht]; simp
   ·by_cases e : q = i
    ·rw [e]; exact hLf
    ·refine hnext q x hx (by omega) ?_
     unfold conf; rw [hd, hits_some ht]; simp
  have hmem : memOp o.op = true → (parS ops τ S (lst listed) ops.size).b = (seqS ops τ S i).b := fun hm => by
   rw [par_mem_stop rfl (i := i) ops.size (by omega) (Nat.le_refl _) fun q x h1 h2 hx hd => ?_]
   ·refine par_mem rfl hτ i (by omega) fun q x hq hx hd => hprev q x hx hq ?_
    unfold conf; rw [hd, hm]; simp
   ·by_cases e : q = i
    ·rw [e]; exact hLf
    ·refine hnext q x hx (by omega) ?_
     unfold conf; rw [hd, hm]; simp
  have hstep := one_move (hone i o ho) (hτ i o ho) heq hmem
  have hafter := par_also (τ := τ) (S := S) rfl ho hLf (fun q x hiq hx hq => ⟨fun s hs hs2 => (by
   have := hnext q x hx hiq (by unfold conf; rw [hs2, hs]; simp [hits])
   rw [hq] at this; cases this), fun hm => by
   cases hm2 : memW x.op with
   | false => rfl
   | true =>
    have := hnext q x hx hiq (by unfold conf; rw [hm, memW_memOp hm2]; simp)
    rw [hq] at this; cases this⟩) ops.size hin (Nat.le_refl _)
  have hw := ops_sound (F := F) (B0 := B0) (W0 := W0) hΓ hC (ops := ops) (Q := fun e a W => match e with
   | .normal => wpAny P .any ops Q fuel (listed.setIfInBounds i true) a W
   | e => Q e a W) (K := fun S1 => S1 = (parS ops τ S (lst listed) ops.size).did o ((τ i).1, if memW o.op = true then (τ i).2 else (parS ops τ S (lst listed) ops.size).b)) (fun S1 β1 a1 W1 hS1 r1 => by
    subst hS1
    refine ih _ a1 W1 β1 (by simp [hsz]) ?_ ?_ ?_
    ·rw [halso]
     have := un_also hLf ops.size hin
     omega
    ·intro j x p hx hj hpx
     rw [halso] at hj ⊢
     unfold also at hj ⊢
     by_cases e : p = i
     ·rw [if_pos e]
     ·rw [if_neg e]
      by_cases e2 : j = i
      ·subst e2
       rw [ho] at hx; injection hx with hx; subst hx
       exact hp p hpx
      ·rw [if_neg e2] at hj
       exact hcl j x p hx hj hpx
    ·rw [halso, hafter]; exact r1) [o] _ β a W hstep r
  show wpOp P ops Q i _ a W
  unfold wpOp
  rw [ho]
  simp only [wpList] at hw
  by_cases hwant : Region.wanted o (yielded ops a.tmps) = true
  ·simp only [hwant, if_true] at hw ⊢
   rcases hw with hw | hw
   ·refine .inl ?_
    unfold Oper.wp at hw ⊢
    exact hw
   ·exact .inr ⟨hw.1, hw.2⟩
  ·simp only [hwant] at hw ⊢
   exact hw
end
end Go.Proofs.YtijebgceopddmaaDoor.Ax
end
section
set_option linter.unusedVariables false
set_option linter.unusedSimpArgs false
namespace Go.Proofs.YtijebgceopddmaaDoor.Ax
open Go.RowKit
inductive Ghost : St → St → Prop
 | refl (S : St) : Ghost S S
 | step {S S' : St} (k i n c : Nat) (e : TypeId) (cs ds : List D) (hk : S.f k = .row i n c) (hb : S.b[i]? = some (some (e, cs))) (hn : n ≤ cs.length) (hd : cs.take n = ds) (h : Ghost { f := fun j => if j = k then .d (.sl false ds) else S.f j, b := S.b.set i none } S') : Ghost S S'
theorem Ghost.trans {S S1 S2 : St} (h : Ghost S S1) (h2 : Ghost S1 S2) : Ghost S S2 := by
 induction h with
 | refl S => exact h2
 | step k i n c e cs ds hk hb hn hd h ih => exact .step k i n c e cs ds hk hb hn hd (ih h2)
theorem Ghost.sound {F : Nat → Prop} {Γ : World → Prop} {B0 N : Nat} {W0 W : World} {S S' : St} {a : Act} (h : Ghost S S') : ∀ β, Rel F Γ B0 W0 N β S a W → ∃ β', Rel F Γ B0 W0 N β' S' a W := by
 induction h with
 | refl S => exact fun β r => ⟨β, r⟩
 | step k i n c e cs ds hk hb hn hd h ih =>
  intro β r
  subst hd
  obtain ⟨b, hi⟩ := r.live i _ hb
  have hs := r.slots k
  rw [hk] at hs
  rcases hs with hdead | ⟨b', h1, h2, h3, h4⟩
  ·rw [hi] at hdead; cases hdead
  ·rw [hi] at h1; injection h1 with h1; injection h1 with h1; subst h1
   have hdat := r.data (n := n) (c := c) hi hb hn h3 h4
   obtain ⟨rd, _, _⟩ := r.die hi
   refine ih (β.set i none) ⟨rd.below, rd.le, rd.gam, rd.foot, rd.size, rd.defers, rd.nodup, rd.len, rd.live, rd.own, fun j => ?_, rd.vars⟩
   by_cases e : j = k
   ·subst e
    show RepT F _ W _ (if j = j then _ else _)
    rw [if_pos rfl, h2]; exact hdat
   ·show RepT F _ W _ (if j = k then _ else _)
    rw [if_neg e]; exact rd.slots j
def Runs (P : Program) (C : FuncId → List T → T → Prop) (N : Nat) (ops : Array Oper) : List Oper → St → (St → Prop) → Prop
 | [], S, K => K S
 | o :: l, S, K => ∃ r : Out, (memW o.op = false → r.2 = S.b) ∧ awpOps P C N ops [o] S (fun S1 => S1 = S.did o r) ∧ Runs P C N ops l (S.did o r) K
theorem un_le {L : Nat → Bool} : ∀ k, un L k ≤ k
 | 0 => Nat.le_refl _
 | k + 1 => by simp only [un]; have := un_le (L := L) k; split <;> omega
theorem runs_out {P : Program} {C : FuncId → List T → T → Prop} {N : Nat} {ops : Array Oper} {S : St} {K : St → Prop} : ∀ (l : List Oper) (k : Nat) (S' : St), (∀ i, l[i]? = ops[k + i]?) → Runs P C N ops l S' K →
  ∃ rs : List Out, rs.length = l.length ∧ ∀ τ : Nat → Out, (∀ i, i < rs.length → τ (k + i) = rs.getD i (.d .any, [])) → seqS ops τ S k = S' →
   (∀ (i : Nat) o, i < l.length → ops[k + i]? = some o → (memW o.op = false → (τ (k + i)).2 = (seqS ops τ S (k + i)).b) ∧ awpOps P C N ops [o] (seqS ops τ S (k + i)) fun S1 => S1 = (seqS ops τ S (k + i)).did o (τ (k + i))) ∧ K (seqS ops τ S (k + l.length))
 | [], k, S', hl, h => ⟨[], rfl, fun τ _ hs => ⟨fun i o hi => by simp at hi, by rw [← hs] at h; exact h⟩⟩
 | o :: l, k, S', hl, h => by
  obtain ⟨r, h1, h2, h3⟩ := h
  obtain ⟨rs, e, hrs⟩ := runs_out (S := S) l (k + 1) _ (fun i => by have := hl (i + 1); rw [List.getElem?_cons_succ] at this; rw [this]; congr 1; omega) h3
  have hko : ops[k]? = some o := by have := hl 0; simpa using this.symm
  refine ⟨r :: rs, by simp [e], fun τ hτ hs => ?_⟩
  have hk : τ k = r := by have := hτ 0 (by simp); simpa using this
  have hnext : seqS ops τ S (k + 1) = S'.did o r := by rw [seq_succ hko, hs, hk]
  obtain ⟨g1, g2⟩ := hrs τ (fun i hi => by have := hτ (i + 1) (by simp; omega); rw [show k + 1 + i = k + (i + 1) by omega, this]; simp) hnext
  refine ⟨fun i x hi hx => ?_, ?_⟩
  ·cases i with
   | zero =>
    rw [Nat.add_zero] at hx ⊢
    rw [hko] at hx; injection hx with hx; subst hx
    rw [hs, hk]; exact ⟨h1, h2⟩
   | succ i =>
    have := g1 i x (by simp at hi; omega) (by rw [← hx]; congr 1; omega)
    rw [show k + 1 + i = k + (i + 1) by omega] at this; exact this
  ·rw [show k + 1 + l.length = k + (o :: l).length by simp; omega] at g2; exact g2
def awp (P : Program) (C : FuncId → List T → T → Prop) (N : Nat) : Code → (Exit → St → Prop) → St → Prop
 | .skip, Q, S => Q .normal S
 | .label _, Q, S => Q .normal S
 | .exit i, Q, S => Q (.exit i) S
 | .ret, Q, S => Q .ret S
 | .region _ ops false, Q, S => ∃ S1, Ghost S S1 ∧ awpOps P C N ops ops.toList S1 (Q .normal)
 | .region _ ops true, Q, S => ∃ S1, Ghost S S1 ∧ P.follows .mixedOrders = true ∧ okD ops = true ∧ Runs P C N ops ops.toList S1 (Q .normal)
 | .seq x y, Q, S => awp P C N x (fun e S' => match e with
  | .normal => awp P C N y Q S'
  | e => Q e S') S
 | .cond c x y, Q, S => match S.eval c with
  | .d (.val (.bool b)) => (b = true → awp P C N x Q S) ∧ (b = false → awp P C N y Q S)
  | _ => False
 | .block i c, Q, S => awp P C N c (fun e S' => match e with
  | .exit j => if j = i then Q .normal S' else Q (.exit j) S'
  | e => Q e S') S
 | .loop c, Q, S => ∃ (I : Nat → St → Prop) (n : Nat), I n S ∧ ∀ n S, I n S → awp P C N c (fun e S' => match e with
  | .normal => ∃ m, m < n ∧ I m S'
  | e => Q e S') S
 | _, _, _ => False
section
variable {P : Program} {C : FuncId → List T → T → Prop} {F : Nat → Prop} {Γ : World → Prop} {B0 N : Nat} {W0 : World}
theorem awp_sound (hΓ : ∀ W W', Below B0 W W' → Γ W → Γ W') (hC : ∀ f ts r, C f ts r → Spec P Γ f ts r) :
  ∀ (c : Code) (Q : Exit → St → Prop) (Qc : Exit → Act → World → Prop), (∀ e S β a W, Q e S → Rel F Γ B0 W0 N β S a W → Qc e a W) → ∀ (S : St) (β : List (Option Nat)) (a : Act) (W : World), awp P C N c Q S → Rel F Γ B0 W0 N β S a W → c.wp P Qc a W := by
 intro c
 induction c with
 | skip => intro Q Qc hQ S β a W h r; exact wp_skip (hQ _ _ _ _ _ h r)
 | label l => intro Q Qc hQ S β a W h r; exact wp_label (hQ _ _ _ _ _ h r)
 | exit i => intro Q Qc hQ S β a W h r; exact wp_exit (hQ _ _ _ _ _ h r)
 | ret => intro Q Qc hQ S β a W h r; exact wp_ret (hQ _ _ _ _ _ h r)
 | region i ops d =>
  intro Q Qc hQ S β a W h r
  cases d with
  | false =>
   obtain ⟨S1, hg, h⟩ := h
   obtain ⟨β, r⟩ := hg.sound β r
   exact wp_region_list (ops_sound hΓ hC (fun S β a W hk r => hQ _ _ _ _ _ hk r) _ S1 β a W h r)
  | true =>
   obtain ⟨S1, hg, hm, hok, hr⟩ := h
   obtain ⟨β, r⟩ := hg.sound β r
   obtain ⟨rs, hl, hrs⟩ := runs_out (ops := ops) (S := S1) ops.toList 0 S1 (fun i => by simp) hr
   obtain ⟨h1, h2⟩ := hrs (fun i => rs.getD i (.d .any, [])) (fun i _ => by simp) rfl
   simp only [Array.length_toList, Nat.zero_add] at h1 h2
   have hlt : ∀ (i : Nat) o, ops[i]? = some o → i < ops.size := fun i o ho => (Array.getElem?_eq_some_iff.1 ho).1
   have hd : Below W.heap.size W W.drew := (Below.refl _ _).drew
   refine wp_region_any hm (drawn_any (okD_spec hok) hΓ hC (fun i o ho => (h1 i o (hlt i o ho) ho).1) (fun i o ho => (h1 i o (hlt i o ho) ho).2) (fun β a W r => hQ _ _ _ _ _ h2 r) ops.size _ a _ β (by simp) ?_ (fun j o p ho hj _ => ?_) ?_)
   ·exact un_le _
   ·exfalso; unfold lst at hj; simp [Array.getD_eq_getD_getElem?, Array.getElem?_replicate] at hj
    split at hj <;> cases hj
   ·rw [par_none (fun i => by
     unfold lst; rw [Array.getD_eq_getD_getElem?, Array.getElem?_replicate]
     split <;> rfl)]
    exact r.step hd (hΓ _ _ (hd.mono r.le) r.gam)
 | seq x y ihx ihy =>
  intro Q Qc hQ S β a W h r
  refine wp_seq (ihx _ _ (fun e S' β' a' W' h' r' => ?_) S β a W h r)
  cases e with
  | normal => exact ihy Q Qc hQ S' β' a' W' h' r'
  | exit i => exact hQ _ _ _ _ _ h' r'
  | goto l => exact hQ _ _ _ _ _ h' r'
  | ret => exact hQ _ _ _ _ _ h' r'
  | panic ch => exact hQ _ _ _ _ _ h' r'
  | outgrown => exact hQ _ _ _ _ _ h' r'
 | cond c x y ihx ihy =>
  intro Q Qc hQ S β a W h r
  simp only [awp] at h
  split at h
  ·rename_i b hb
   exact wp_cond_split (r.val hb) (fun hb' => ihx Q Qc hQ S β a W (h.1 hb') r) (fun hb' => ihy Q Qc hQ S β a W (h.2 hb') r)
  ·exact h.elim
 | block i c ih =>
  intro Q Qc hQ S β a W h r
  refine wp_block (ih _ _ (fun e S' β' a' W' h' r' => ?_) S β a W h r)
  cases e with
  | exit j =>
   simp only [Exit.inBlock]
   simp only at h'
   split at h'
   ·rename_i hj; rw [if_pos hj]; exact hQ _ _ _ _ _ h' r'
   ·rename_i hj; rw [if_neg hj]; exact hQ _ _ _ _ _ h' r'
  | normal => exact hQ _ _ _ _ _ h' r'
  | goto l => exact hQ _ _ _ _ _ h' r'
  | ret => exact hQ _ _ _ _ _ h' r'
  | panic ch => exact hQ _ _ _ _ _ h' r'
  | outgrown => exact hQ _ _ _ _ _ h' r'
 | loop c ih =>
  intro Q Qc hQ S β a W h r
  obtain ⟨I, n, h0, hI⟩ := h
  let J : Act → World → Prop := fun a W => ∃ n S β, I n S ∧ Rel F Γ B0 W0 N β S a W
  let μ : Act → World → Nat := fun a W => open Classical in if h : ∃ n, ∃ S β, I n S ∧ Rel F Γ B0 W0 N β S a W then Classical.choose (exists_least h) else 0
  refine wp_loop J μ ⟨n, S, β, h0, r⟩ fun a W hJ => ?_
  have hex : ∃ n, ∃ S β, I n S ∧ Rel F Γ B0 W0 N β S a W := by obtain ⟨n, S, β, h1, h2⟩ := hJ; exact ⟨n, S, β, h1, h2⟩
  have hμ : ∃ S β, I (μ a W) S ∧ Rel F Γ B0 W0 N β S a W := by
   simp only [μ, dif_pos hex]; exact (Classical.choose_spec (exists_least hex)).1
  obtain ⟨S, β, h1, h2⟩ := hμ
  refine ih _ _ (fun e S' β' a' W' h' r' => ?_) S β a W (hI _ S h1) h2
  cases e with
  | normal =>
   obtain ⟨m, hm, h3⟩ := h'
   have hex' : ∃ n, ∃ S β, I n S ∧ Rel F Γ B0 W0 N β S a' W' := ⟨m, S', β', h3, r'⟩
   refine ⟨⟨m, S', β', h3, r'⟩, Nat.lt_of_le_of_lt ?_ hm⟩
   simp only [μ, dif_pos hex']
   exact (Classical.choose_spec (exists_least hex')).2 m ⟨S', β', h3, r'⟩
  | exit j => exact hQ _ _ _ _ _ h' r'
  | goto l => exact hQ _ _ _ _ _ h' r'
  | ret => exact hQ _ _ _ _ _ h' r'
  | panic ch => exact hQ _ _ _ _ _ h' r'
  | outgrown => exact hQ _ _ _ _ _ h' r'
 | rangeFunc => intro Q Qc hQ S β a W h r; exact h.elim
 | scope => intro Q Qc hQ S β a W h r; exact h.elim
 | goto => intro Q Qc hQ S β a W h r; exact h.elim
 | refuse => intro Q Qc hQ S β a W h r; exact h.elim
end
end Go.Proofs.YtijebgceopddmaaDoor.Ax
end
section
set_option linter.unusedVariables false
set_option linter.unusedSimpArgs false
namespace Go.Proofs.YtijebgceopddmaaDoor.Ax
open Go.RowKit
def tmpsOf : List ResultVar → Option (List Nat)
 | [] => some []
 | .tmp t :: l => (tmpsOf l).map (t :: ·)
 | .cell _ _ :: _ => none
def resT (fn : Func) (S : St) : Option T :=
 match tmpsOf fn.results.toList with
 | some [t] => some (S.f t)
 | some ts => if ts.all (fun t => match S.f t with | .d _ => true | _ => false) then some (.tup (ts.map fun t => toD (S.f t))) else none
 | none => none
def start (ds : List D) : St := { f := fun i => .d (ds.getD i .any), b := [] }
def GamOk (Γ : World → Prop) : Prop := ∀ W0, Γ W0 → ∀ W W', Below W0.heap.size W W' → Γ W → Γ W'
section
variable {P : Program} {C : FuncId → List T → T → Prop} {F : Nat → Prop} {Γ : World → Prop} {B0 N : Nat} {W0 W : World} {β : List (Option Nat)} {S : St} {a : Act}
def resOne (tmps : Array Value) : ResultVar → Sem Value
 | .tmp t => pure (tmps.getD t undef)
 | .cell a t => do loadVar t (← asAddr (tmps.getD a undef))
theorem mapM_tmp {P : Program} {W : World} (tmps : Array Value) : ∀ (l : List ResultVar) (ts : List Nat), tmpsOf l = some ts → (l.mapM (resOne tmps)).run P W = .ok (ts.map fun t => tmps.getD t undef) W
 | [], ts, h => by simp [tmpsOf] at h; subst h; rfl
 | .tmp t :: l, ts, h => by
  simp only [tmpsOf, Option.map_eq_some_iff] at h
  obtain ⟨ts', h3, rfl⟩ := h
  have := mapM_tmp (P := P) (W := W) tmps l ts' h3
  simp [List.mapM_cons, resOne, this]
 | .cell _ _ :: l, ts, h => by simp [tmpsOf] at h
theorem results_run (fn : Func) (tmps : Array Value) (ts : List Nat) (h : tmpsOf fn.results.toList = some ts) :
  (results fn tmps).run P W = .ok (if h : (ts.map fun t => tmps.getD t undef).toArray.size = 1 then (ts.map fun t => tmps.getD t undef).toArray[0] else .tuple (ts.map fun t => tmps.getD t undef).toArray) W := by
 have h1 := mapM_tmp (P := P) (W := W) tmps fn.results.toList ts h
 have e : results fn tmps = (do
   let vs ← fn.results.mapM (resOne tmps)
   pure (if h : vs.size = 1 then vs[0] else .tuple vs)) := by
  unfold results
  congr 1
 rw [e, Array.mapM_eq_mapM_toList]
 simp only [Sem.run_bind, bind_pure_comp, h1]
 simp [h1]
theorem Rel.result (r : Rel F Γ B0 W0 N β S a W) {fn : Func} {res : T} (h : resT fn S = some res) : ∃ v, (results fn a.tmps).run P W = .ok v W ∧ RepT F β W v res := by
 unfold resT at h
 split at h
 ·rename_i t ht
  injection h with h; subst h
  refine ⟨_, results_run fn a.tmps [t] ht, ?_⟩
  simp only [List.map_cons, List.map_nil, List.size_toArray, List.length_cons, List.length_nil, Nat.zero_add, dite_true]
  exact r.slots t
 ·rename_i ts hn ht
  split at h
  ·rename_i hall
   injection h with h; subst h
   refine ⟨_, results_run fn a.tmps ts ht, ?_⟩
   have hlen : ¬ (ts.map fun t => a.tmps.getD t undef).toArray.size = 1 := by
    simp only [List.size_toArray, List.length_map]
    intro h1
    obtain ⟨t, rfl⟩ := List.length_eq_one_iff.1 h1
    exact hn t rfl
   rw [dif_neg hlen]
   refine ⟨_, rfl, by simp, fun i u y hu hy => ?_⟩
   simp only [List.getElem?_toArray, List.getElem?_map, Option.map_eq_some_iff] at hu hy
   obtain ⟨t, ht1, rfl⟩ := hu
   obtain ⟨t', ht2, rfl⟩ := hy
   rw [ht1] at ht2; injection ht2 with ht2; subst ht2
   have h5 := List.all_eq_true.1 hall t (List.mem_of_getElem? ht1)
   have h6 := r.slots t
   cases he : S.f t with
   | d x => rw [he] at h6; exact h6
   | tup ts => rw [he] at h5; cases h5
   | ptr i off => rw [he] at h5; cases h5
   | eptr x => rw [he] at h5; cases h5
   | row i n c => rw [he] at h5; cases h5
  ·cases h
 ·cases h
def T.plain : T → Bool
 | .d _ | .tup _ => true
 | _ => false
theorem spec_of {f : FuncId} {fn : Func} {c : Code} (hf : P.funcs[f]? = some fn) (hb : fn.body = some c) (hname : (fn.name == "runtime.NumGoroutine") = false) (hΓ : GamOk Γ) (hC : ∀ f ts r, C f ts r → Spec P Γ f ts r) (ds : List D) (hn : ds.length ≤ fn.ntmps) (res : T) (hp : res.plain = true)
  (h : awp P C fn.ntmps c (fun e S => (e = .normal ∨ e = .ret) ∧ resT fn S = some res) (start ds)) : Spec P Γ f (ds.map T.d) res := by
 refine ⟨⟨fn, hf, hname, by rw [hb]; rfl⟩, ds, rfl, fun ok W vs hG hl hargs => ?_⟩
 have r : Rel (fun k => ok k ∨ W.heap.size ≤ k) Γ W.heap.size W fn.ntmps [] (start ds) { tmps := vs.toArray ++ Array.replicate (fn.ntmps - vs.toArray.size) undef, defers := [] } W := by
  refine ⟨Below.refl _ _, Nat.le_refl _, hG, fun k hk => .inr hk, ?_, rfl, fun i j b hi => by simp at hi, rfl, fun i e hi => by simp [start] at hi, fun b hb => by simp at hb, fun i => ?_, fun i b e cs hi => by simp at hi⟩
  ·simp; omega
  ·show Rep _ _ _ (ds.getD i .any)
   by_cases hi : i < ds.length
   ·have h1 : vs[i]? = some vs[i] := List.getElem?_eq_getElem (by omega)
    have h2 : ds[i]? = some ds[i] := List.getElem?_eq_getElem hi
    have h3 := hargs i _ _ h1 h2
    have e1 : (vs.toArray ++ Array.replicate (fn.ntmps - vs.toArray.size) undef).getD i undef = vs[i] := by
     rw [Array.getD_eq_getD_getElem?, Array.getElem?_append_left (by simp; omega)]
     simp [h1]
    rw [List.getD_eq_getElem?_getD, h2]
    show Rep _ _ ((vs.toArray ++ Array.replicate (fn.ntmps - vs.toArray.size) undef).getD i undef) _
    rw [e1]
    exact h3.mono fun k hk _ => ⟨.inl hk, by simp⟩
   ·rw [List.getD_eq_getElem?_getD, List.getElem?_eq_none (by omega)]
    exact Rep.any _
 refine calls_of_wp hf hb (awp_sound (hΓ W hG) hC c _ _ (fun e S β a W' hq r' => ?_) _ [] _ W h r)
 obtain ⟨he, hres⟩ := hq
 obtain ⟨v, hv, hrep⟩ := r'.result (P := P) hres
 have hpost : ∃ v, (results fn a.tmps).run P W' = .ok v W' ∧ ∃ v', Ending.returned v = .returned v' ∧ RepR (fun k => ok k ∨ W.heap.size ≤ k) W' v' res ∧ Below W.heap.size W W' := by
  refine ⟨v, hv, v, rfl, ?_, r'.below⟩
  cases res with
  | d x => exact Rep.mono (fun k hk _ => hk.1) hrep
  | tup ts => obtain ⟨vs, h1, h2, h3⟩ := hrep; exact ⟨vs, h1, h2, fun i u y hu hy => (h3 i u y hu hy).mono fun k hk _ => hk.1⟩
  | ptr i off => cases hp
  | eptr x => cases hp
  | row i n c => cases hp
 rcases he with rfl | rfl
 ·exact ⟨r'.defers, hpost⟩
 ·exact ⟨r'.defers, hpost⟩
end
end Go.Proofs.YtijebgceopddmaaDoor.Ax
end
section
set_option linter.unusedVariables false
set_option linter.unusedSimpArgs false
namespace Go.Proofs.YtijebgceopddmaaDoorW.PrintWords
open Go.RowKit
structure Aside0 (p : Prop) : Prop where mk :: (out : p)
structure Drawn0 (w w' : World) : Prop where mk :: (out : ∃ n, w' = w.drewN n)
theorem Drawn0.refl (w : World) : Drawn0 w w := ⟨⟨0, rfl⟩⟩
theorem Drawn0.step {w w' : World} (h : Drawn0 w w') (n : Nat) : Drawn0 w (w'.drewN n) := by
  obtain ⟨m, rfl⟩ := h
  exact ⟨⟨m + n, World.drewN_drewN ..⟩⟩
def rd (xs : List Int) (i : Int) : Int := xs.getD i.toNat 0
theorem below_alloc {w W : World} (h : Below w.heap.size w W) (o : Obj) : Below w.heap.size w (W.alloc o) := h.alloc h.size o
theorem below_drew {B : Nat} {w W : World} (h : Below B w W) : Below B w W.drew := ⟨h.os, h.tape, h.output, h.size, h.block⟩
theorem pw_below_drewN {B : Nat} {w W : World} (h : Below B w W) (n : Nat) : Below B w (W.drewN n) := ⟨h.os, h.tape, h.output, h.size, h.block⟩
theorem below_then {B : Nat} {w w1 w2 : World} (h : Below B w w1) (hB : B ≤ w1.heap.size) (k : Below w1.heap.size w1 w2) : Below B w w2 :=
  h.trans ⟨k.os, k.tape, k.output, k.size, fun i hi => k.block i (Nat.lt_of_lt_of_le hi hB)⟩
theorem pw_below_grown {B : Nat} {w w1 : World} (h : Below B w w1) (row : Option Nat) (hB : B ≤ w1.heap.size) {w2 : World} (hg : w1.grownBy w2 row) (hr : ∀ k, row = some k → B ≤ k) : Below B w w2 := h.grown hg hB hr
theorem grown_of_below {w w1 : World} (h : Below w.heap.size w w1) (row : Option Nat) : w.grownBy w1 row := ⟨h.os, h.tape, h.output, h.size, fun i hi _ => h.block i hi⟩
theorem pw_cell_below {w w1 : World} (h : Below w.heap.size w w1) {a : Addr} {v : Value} (hc : w.cell? a = some v) : w1.cell? a = some v := (h.cell (World.block_lt_of_cell? w a hc)).trans hc
theorem add_plain (g j : Nat) : (⟨g, 0, none⟩ : Addr).add j = ⟨g, j, none⟩ := by unfold Addr.add; split <;> simp_all
def ReadsInt (w : World) (k : IntKind) (A : Option Addr) (n : Nat) (xs : List Int) : Prop :=
  xs.length = n ∧ n ≤ 9223372036854775807 ∧ (0 < n → ∃ ad, A = some ad ∧ ∀ j, j < n → w.cell? (ad.add j) = some (.int k (xs.getD j 0)))
theorem ReadsInt.at_ {w : World} {k : IntKind} {A : Option Addr} {n : Nat} {xs : List Int} (h : ReadsInt w k A n xs) (i : Int) (h0 : 0 ≤ i) (h1 : i < n) : ∃ ad, A = some ad ∧ w.cell? (ad.add i.toNat) = some (.int k (rd xs i)) := by
  obtain ⟨ad, e, hc⟩ := h.2.2 (by omega)
  exact ⟨ad, e, hc _ (by omega)⟩
theorem own_nil (W : World) (base : Nat) (e : TypeId) (size : Nat) : W.ownsRow base e size (.slice none 0 0) 0 [] := ⟨by simp, .inl ⟨rfl, rfl⟩⟩
theorem own_base {w : World} {base : Nat} {e : TypeId} {size n : Nat} {v : Value} {xs : List Value} (h : w.ownsRow base e size v n xs) (k : Nat) (hk : v.ownBlock = some k) : base ≤ k := by
  rcases h.2 with ⟨rfl, _⟩ | ⟨g, cap, cur, rfl, hb, _⟩
  · simp [Value.ownBlock] at hk
  · have : g = k := by simpa [Value.ownBlock] using hk
    omega
theorem own_lt {w : World} {base : Nat} {e : TypeId} {size n : Nat} {v : Value} {xs : List Value} (h : w.ownsRow base e size v n xs) (k : Nat) (hk : v.ownBlock = some k) : k < w.heap.size := by
  rcases h.2 with ⟨rfl, _⟩ | ⟨g, cap, cur, rfl, hb, hh, _⟩
  · simp [Value.ownBlock] at hk
  · have : g = k := by simpa [Value.ownBlock] using hk
    subst this
    exact (Array.getElem?_eq_some_iff.1 hh).1
theorem pw_own_below {w w1 : World} {base : Nat} {e : TypeId} {size n : Nat} {v : Value} {xs : List Value} (h : w.ownsRow base e size v n xs) (hb : Below w.heap.size w w1) : w1.ownsRow base e size v n xs :=
  h.kept (grown_of_below hb none) (by cases v.ownBlock <;> simp)
theorem own_slice {w : World} {base n : Nat} {e : TypeId} {size : Nat} {v : Value} {xs : List Value} (h : w.ownsRow base e size v n xs) : ∃ A c, v = .slice A n c := by
  rcases h.2 with ⟨rfl, rfl⟩ | ⟨g, cap, cur, rfl, _⟩
  · exact ⟨none, 0, rfl⟩
  · exact ⟨_, cap, rfl⟩
section
variable {P : Program} {ops : Array Oper} {rest : List Oper} {o : Oper} {a : Act} {Q : Exit → Act → World → Prop}
end
section
variable {P : Program}
end
section
variable {P : Program} {ops : Array Oper} {rest : List Oper} {o : Oper} {a : Act} {Q : Exit → Act → World → Prop}
end
def bytesOf (s : ByteArray) : List Int := s.data.toList.map fun b => (b.toNat : Int)
def LeO {α : Type} (a b : Option α) : Prop := ∀ r, a = some r → b = some r
theorem LeO.refl {α : Type} (a : Option α) : LeO a a := fun _ h => h
theorem LeO.none {α : Type} (b : Option α) : LeO Option.none b := fun _ h => by cases h
theorem LeO.trans {α : Type} {a b c : Option α} (h : LeO a b) (k : LeO b c) : LeO a c := fun r hr => k r (h r hr)
theorem LeO.bind {α β : Type} {a a' : Option α} {f f' : α → Option β} (h : LeO a a') (k : ∀ x, LeO (f x) (f' x)) : LeO (a.bind f) (a'.bind f') := by
  intro r hr
  obtain ⟨x, hx, hf⟩ := Option.bind_eq_some_iff.1 hr
  exact Option.bind_eq_some_iff.2 ⟨x, h x hx, k x r hf⟩
theorem LeO.map {α β : Type} {a a' : Option α} (f : α → β) (h : LeO a a') : LeO (a.map f) (a'.map f) := by
  intro r hr
  obtain ⟨x, hx, hf⟩ := Option.map_eq_some_iff.1 hr
  exact Option.map_eq_some_iff.2 ⟨x, h x hx, hf⟩
theorem more_rounds {α : Type} {g : Nat → Option α} (h : ∀ k, LeO (g k) (g (k + 1))) (k : Nat) : ∀ j, LeO (g k) (g (k + j))
  | 0 => LeO.refl _
  | j + 1 => (more_rounds h k j).trans (h (k + j))
theorem at_rounds {α : Type} {g : Nat → Option α} (h : ∀ k, LeO (g k) (g (k + 1))) {k k' : Nat} (hk : k ≤ k') {r : α} (hr : g k = some r) : g k' = some r := by
  have := more_rounds h k (k' - k) r hr
  rwa [Nat.add_sub_cancel' hk] at this
def Reps {α : Type} (R : α → List Value → Prop) (size : Nat) (ps : List α) (cs : List Value) : Prop :=
  cs.length = ps.length * size ∧ ∀ j p, ps[j]? = some p → R p ((cs.drop (j * size)).take size)
theorem Reps.none {α : Type} (R : α → List Value → Prop) (size : Nat) : Reps R size [] [] := ⟨by simp, fun j p h => by simp at h⟩
theorem Reps.snoc {α : Type} {R : α → List Value → Prop} {size : Nat} {ps : List α} {cs c : List Value} {p : α} (h : Reps R size ps cs) (hp : R p c) (hc : c.length = size) : Reps R size (ps ++ [p]) (cs ++ c) := by
  refine ⟨by rw [List.length_append, h.1, hc, List.length_append, List.length_singleton, Nat.add_mul, Nat.one_mul], fun j q hq => ?_⟩
  rcases Nat.lt_or_ge j ps.length with hj | hj
  · rw [List.getElem?_append_left hj] at hq
    have h1 : j * size + size ≤ cs.length := by rw [h.1, ← Nat.succ_mul]; exact Nat.mul_le_mul_right _ hj
    have h2 := h.2 j q hq
    rw [List.drop_append_of_le_length (by omega), List.take_append_of_le_length (by rw [List.length_drop]; omega)]
    exact h2
  · have hj' : j = ps.length := by
      have := (List.getElem?_eq_some_iff.1 hq).1
      rw [List.length_append, List.length_singleton] at this
      omega
    subst hj'
    have hq' : p = q := by simpa using hq
    subst hq'
    rw [← h.1, List.drop_left, ← hc, List.take_length]
    exact hp
theorem Reps.imp_ {α : Type} {R R' : α → List Value → Prop} {size : Nat} {ps : List α} {cs : List Value} (h : Reps R size ps cs) (hR : ∀ p c, R p c → R' p c) : Reps R' size ps cs := ⟨h.1, fun j p hj => hR _ _ (h.2 j p hj)⟩
def ReadsRow {α : Type} (R : α → List Value → Prop) (size : Nat) (w : World) (A : Option Addr) (n : Nat) (ps : List α) : Prop :=
  ps.length = n ∧ n ≤ 9223372036854775807 ∧ (0 < n → ∃ ad, A = some ad ∧ ∀ j p, ps[j]? = some p → ∃ c, c.length = size ∧ R p c ∧ ∀ i u, c[i]? = some u → w.cell? (ad.add (j * size + i)) = some u)
theorem ReadsRow.get_ {α : Type} {R : α → List Value → Prop} {size : Nat} {w : World} {A : Option Addr} {n : Nat} {ps : List α} (h : ReadsRow R size w A n ps) (d : α) (i : Int) (h0 : 0 ≤ i) (h1 : i < n) :
    ∃ ad c, A = some ad ∧ c.length = size ∧ R (ps.getD i.toNat d) c ∧ ∀ j u, c[j]? = some u → w.cell? (ad.add (i.toNat * size + j)) = some u := by
  obtain ⟨ad, e, hc⟩ := h.2.2 (by omega)
  have hl : i.toNat < ps.length := by have := h.1; omega
  obtain ⟨c, hs, hr, hcell⟩ := hc i.toNat _ (List.getElem?_eq_getElem hl)
  refine ⟨ad, c, e, hs, ?_, hcell⟩
  rw [List.getD_eq_getElem?_getD, List.getElem?_eq_getElem hl]
  exact hr
theorem ReadsRow.imp_ {α : Type} {R R' : α → List Value → Prop} {size : Nat} {w w1 : World} {A : Option Addr} {n : Nat} {ps : List α} (h : ReadsRow R size w A n ps) (hb : Below w.heap.size w w1) (hR : ∀ p c, R p c → R' p c) : ReadsRow R' size w1 A n ps :=
  ⟨h.1, h.2.1, fun hn => by
    obtain ⟨ad, e, hc⟩ := h.2.2 hn
    refine ⟨ad, e, fun j p hj => ?_⟩
    obtain ⟨c, hs, hr, hcell⟩ := hc j p hj
    exact ⟨c, hs, hR _ _ hr, fun i u hu => pw_cell_below hb (hcell i u hu)⟩⟩
theorem own_reads_row {α : Type} {R : α → List Value → Prop} {w : World} {base n size : Nat} {e : TypeId} {v : Value} {ps : List α} {cs : List Value} (h : w.ownsRow base e size v n cs) (hR : Reps R size ps cs) (hn : ps.length = n) :
    ∃ A c, v = .slice A n c ∧ ReadsRow R size w A n ps := by
  rcases Nat.eq_zero_or_pos n with h0 | h0
  · rcases h.2 with ⟨rfl, rfl⟩ | ⟨g, cap, cur, rfl, _⟩
    · exact ⟨none, 0, rfl, hn, by omega, fun hp => absurd hp (by omega)⟩
    · exact ⟨_, cap, rfl, hn, by omega, fun hp => absurd hp (by omega)⟩
  · obtain ⟨g, cap, rfl, _, _⟩ := h.form h0
    have hm : n ≤ 9223372036854775807 := by
      rcases h.2 with ⟨_, h1⟩ | ⟨g', cap', cur, he, _, _, h1, h2, _⟩
      · omega
      · simp only [maxLen] at h2
        omega
    refine ⟨_, cap, rfl, hn, hm, fun _ => ⟨_, rfl, fun j p hj => ⟨(cs.drop (j * size)).take size, ?_, hR.2 j p hj, fun i u hu => ?_⟩⟩⟩
    · have hjl := (List.getElem?_eq_some_iff.1 hj).1
      have h1 : j * size + size ≤ cs.length := by rw [hR.1, ← Nat.succ_mul]; exact Nat.mul_le_mul_right _ hjl
      rw [List.length_take, List.length_drop]
      omega
    · refine h.cells (g := g) rfl _ u ?_
      rw [List.getElem?_take] at hu
      split at hu
      · rw [List.getElem?_drop] at hu
        exact hu
      · cases hu
section
variable {P : Program} {ops : Array Oper} {rest : List Oper} {o : Oper} {a : Act} {Q : Exit → Act → World → Prop}
theorem print_append_cells {w0 W : World} (base : Nat) (hgd : o.guard = none) (s x : Operand) (t e : TypeId) (z : Value) (size bytes : Nat)
    (ho : o.op = .call { callee := .builtin .append, args := #[s, x], argTypes := #[t, t] })
    (ht : P.underlying t = some (.slice e)) (hinfo : (P.info? e).map (fun i => (i.zero, i.size, i.bytes)) = some (some z, size, bytes)) (hz : z.cells.size = size) (hs0 : 0 < size) (hb0 : 0 < bytes)
    (v : Value) (n : Nat) (xs ys : List Value) (hs : a.eval s = v) (hx : a.eval x = .slice (some ⟨W.heap.size, 0, none⟩) 1 1) (hys : ys.length = size) (h1 : ∀ u ∈ ys, u.oneCell' = true)
    (HO : W.ownsRow base e size v n xs) (HB : Below base w0 W) (hbase : base ≤ W.heap.size) (hl : (n + 1) * bytes ≤ 140737488355328)
    (h : ∀ v1 w1, w1.ownsRow base e size v1 (n + 1) (xs ++ ys) → Below base w0 w1 → W.grownBy w1 v.ownBlock → (v1.ownBlock = v.ownBlock ∨ ∃ b, v1.ownBlock = some b ∧ W.heap.size ≤ b) → wpList P ops Q rest (a.put o.dst v1) w1) :
    wpList P ops Q (o :: rest) a (W.alloc (.cells ys.toArray e)) := by
  obtain ⟨i0, hi, hzz⟩ := Option.map_eq_some_iff.1 hinfo
  simp only [Prod.mk.injEq] at hzz
  obtain ⟨hz0, hz1, hz2⟩ := hzz
  have hlen : n + 1 ≤ 140737488355328 := Nat.le_trans (Nat.le_mul_of_pos_right _ hb0) hl
  refine wpList_append_own_at (W.alloc (.cells ys.toArray e)) hgd s x t ho base e i0 z size bytes ht hi hz0 hz1 hz2 hz hs0 v n xs hs (HO.alloc _) ⟨W.heap.size, 0, none⟩ 1 1 ys hx (by rw [hys]; simp)
    (by simpa using World.news_of_block (cs := ys.toArray) (t := e) (fr := (0, 0)) (heap_alloc_new W (.cells ys.toArray e))) h1 (by simp only [maxLen]; omega) hl (by simp; omega) ?_
  intro v1 w1 hown hg _ hat
  refine h v1 w1 hown ((HB.alloc hbase _).grown hg (by simp; omega) (own_base HO)) (World.grownBy.trans (World.grownBy_alloc W _ _) hg) ?_
  rcases hat with hat | hat
  · exact .inl hat
  · exact .inr ⟨_, hat, by simp⟩
end
theorem own_ne {w : World} {base : Nat} {e t : TypeId} {size n g : Nat} {v : Value} {xs : List Value} {cs : Array Value} (h : w.ownsRow base e size v n xs) (hg : w.heap[g]? = some (.cells cs t (0, 0))) (hne : e ≠ t) : some g ≠ v.ownBlock := by
  rcases h.2 with ⟨rfl, _⟩ | ⟨g', cap, cur, rfl, _, hh, _⟩
  · simp [Value.ownBlock]
  · intro he
    have : g = g' := by simpa [Value.ownBlock] using he
    subst this
    rw [hg] at hh
    injection hh with hh
    injection hh with _ ht
    exact hne ht.symm
theorem blk_set {w : World} {g : Nat} {t : TypeId} {cs : Array Value} (h : w.heap[g]? = some (.cells cs t (0, 0))) (i : Nat) (u : Value) : (w.setCell ⟨g, i, none⟩ u).heap[g]? = some (.cells (cs.setIfInBounds i u) t (0, 0)) := by
  simp [World.setCell, Array.getElem?_modify, h]
theorem blk_far {w : World} {g : Nat} {t : TypeId} {cs : Array Value} (h : w.heap[g]? = some (.cells cs t (0, 0))) {p : Addr} (hp : g ≠ p.block) (u : Value) : (w.setCell p u).heap[g]? = some (.cells cs t (0, 0)) := (Below.heap_setCell w p u g hp).trans h
theorem blk_lt {w : World} {g : Nat} {o : Obj} (h : w.heap[g]? = some o) : g < w.heap.size := (Array.getElem?_eq_some_iff.1 h).1
theorem blk_cell {w : World} {g : Nat} {t : TypeId} {cs : Array Value} (h : w.heap[g]? = some (.cells cs t (0, 0))) (i : Nat) : w.cell? ⟨g, i, none⟩ = cs[i]? := cell_of_row w g i cs t (0, 0) h
theorem blk_frozen {w : World} {g : Nat} {t : TypeId} {cs : Array Value} (h : w.heap[g]? = some (.cells cs t (0, 0))) (i : Nat) : w.frozen? ⟨g, i, none⟩ = false := by simp [World.frozen?, h]
theorem blk_grown {w w1 : World} {g : Nat} {o : Obj} {row : Option Nat} (h : w.heap[g]? = some o) (hg : w.grownBy w1 row) (hne : some g ≠ row) : w1.heap[g]? = some o := (hg.block g (blk_lt h) hne).trans h
def KeepBut (w w' : World) (g : Nat) (row : Option Nat) : Prop := w.heap.size ≤ w'.heap.size ∧ ∀ i, i < w.heap.size → i ≠ g → some i ≠ row → w'.heap[i]? = w.heap[i]?
theorem KeepBut.trans {w w1 w2 : World} {g : Nat} {row row1 : Option Nat} (h : KeepBut w w1 g row) (k : KeepBut w1 w2 g row1) (hr : row1 = row ∨ ∃ b, row1 = some b ∧ w.heap.size ≤ b) : KeepBut w w2 g row :=
  ⟨Nat.le_trans h.1 k.1, fun i hi hg hn => by
    refine (k.2 i (Nat.lt_of_lt_of_le hi h.1) hg ?_).trans (h.2 i hi hg hn)
    rcases hr with rfl | ⟨b, rfl, hb⟩
    · exact hn
    · intro e
      injection e with e
      omega⟩
theorem KeepBut.blk {w w1 : World} {g g' : Nat} {row : Option Nat} {o : Obj} (h : KeepBut w w1 g row) (hb : w.heap[g']? = some o) (hg : g' ≠ g) (hr : some g' ≠ row) : w1.heap[g']? = some o := (h.2 g' (blk_lt hb) hg hr).trans hb
theorem KeepBut.own {w w1 : World} {g : Nat} {row : Option Nat} {base : Nat} {e : TypeId} {size n : Nat} {v : Value} {xs : List Value} (h : KeepBut w w1 g row) (ho : w.ownsRow base e size v n xs) (hg : v.ownBlock ≠ some g) (hr : v.ownBlock = none ∨ v.ownBlock ≠ row) : w1.ownsRow base e size v n xs := by
  obtain ⟨h1, h2⟩ := ho
  refine ⟨h1, ?_⟩
  rcases h2 with h2 | ⟨b, cap, cur, rfl, hb, hh, r⟩
  · exact .inl h2
  · refine .inr ⟨b, cap, cur, rfl, hb, h.blk hh ?_ ?_, r⟩
    · intro e
      exact hg (by rw [← e]; rfl)
    · rcases hr with hr | hr
      · simp [Value.ownBlock] at hr
      · exact hr
def Ev {α : Type} (g : Nat → Option α) (r : α) : Prop := ∃ K, ∀ k, K ≤ k → g k = some r
theorem Ev.of {α : Type} {g : Nat → Option α} {r : α} (hg : ∀ k, LeO (g k) (g (k + 1))) {k : Nat} (h : g k = some r) : Ev g r := ⟨k, fun _ hk => at_rounds hg hk h⟩
theorem Ev.bind {α β : Type} {g : Nat → Option α} {f : Nat → α → Option β} {a : α} {r : β} (h : Ev g a) (k : Ev (fun n => f n a) r) : Ev (fun n => (g n).bind (f n)) r := by
  obtain ⟨K, h⟩ := h
  obtain ⟨K', k⟩ := k
  refine ⟨max K K', fun n hn => ?_⟩
  have h1 := h n (by omega)
  have h2 := k n (by omega)
  simp only [h1, Option.bind_some]
  exact h2
section
variable {P : Program} {ops : Array Oper} {o : Oper} {a : Act} {Q : Exit → Act → World → Prop} {K : Act → World → Prop}
end
theorem own_weaken {w : World} {base base' : Nat} {e : TypeId} {size n : Nat} {v : Value} {xs : List Value} (h : w.ownsRow base e size v n xs) (hb : base' ≤ base) : w.ownsRow base' e size v n xs := by
  obtain ⟨h1, h2⟩ := h
  refine ⟨h1, ?_⟩
  rcases h2 with h2 | ⟨g, cap, cur, rfl, hg, r⟩
  · exact .inl h2
  · exact .inr ⟨g, cap, cur, rfl, Nat.le_trans hb hg, r⟩
section
variable {α : Type} {enc : α → Value} {d : α}
def encs (enc : α → Value) (xs : List α) : List Value := xs.map enc
def rdOf (d : α) (xs : List α) (i : Int) : α := xs.getD i.toNat d
theorem encs_length (xs : List α) : (encs enc xs).length = xs.length := by simp [encs]
theorem encs_get (xs : List α) (j : Nat) (h : j < xs.length) : (encs enc xs)[j]? = some (enc (xs.getD j d)) := by
  simp [encs, List.getElem?_eq_getElem h, List.getD_eq_getElem?_getD]
def ReadsOf (enc : α → Value) (d : α) (w : World) (A : Option Addr) (n : Nat) (xs : List α) : Prop :=
  xs.length = n ∧ n ≤ 9223372036854775807 ∧ (0 < n → ∃ ad, A = some ad ∧ ∀ j, j < n → w.cell? (ad.add j) = some (enc (xs.getD j d)))
theorem ReadsOf.at_ {w : World} {A : Option Addr} {n : Nat} {xs : List α} (h : ReadsOf enc d w A n xs) (i : Int) (h0 : 0 ≤ i) (h1 : i < n) : ∃ ad, A = some ad ∧ w.cell? (ad.add i.toNat) = some (enc (rdOf d xs i)) := by
  obtain ⟨ad, e, hc⟩ := h.2.2 (by omega)
  exact ⟨ad, e, hc _ (by omega)⟩
theorem own_at_of {W : World} {base g n cap : Nat} {e : TypeId} {xs : List α} (h : W.ownsRow base e 1 (.slice (some ⟨g, 0, none⟩) n cap) n (encs enc xs)) (i : Int) (h0 : 0 ≤ i) (h1 : i < n) :
    W.cell? ⟨g, i.toNat, none⟩ = some (enc (rdOf d xs i)) ∧ W.frozen? ⟨g, i.toNat, none⟩ = false := by
  have hl : xs.length = n := by have := h.1; simp [encs] at this; exact this
  constructor
  · have hc := h.cells (g := g) rfl i.toNat _ (encs_get (d := d) xs i.toNat (by omega))
    rwa [add_plain] at hc
  · rcases h.2 with ⟨h', _⟩ | ⟨g', cap', cur, h', _, hh, _⟩
    · cases h'
    · have : g = g' := by injection h' with h'; injection h' with h'; injection h' with h'
      subst this
      simp [World.frozen?, hh]
theorem own_store_of {W : World} {base g n cap : Nat} {e : TypeId} {xs : List α} (h : W.ownsRow base e 1 (.slice (some ⟨g, 0, none⟩) n cap) n (encs enc xs)) (i : Int) (x : α) :
    (W.setCell ⟨g, i.toNat, none⟩ (enc x)).ownsRow base e 1 (.slice (some ⟨g, 0, none⟩) n cap) n (encs enc (xs.set i.toNat x)) ∧ W.grownBy (W.setCell ⟨g, i.toNat, none⟩ (enc x)) (some g) := by
  have hs := h.stored i.toNat (enc x)
  have he : (encs enc xs).set i.toNat (enc x) = encs enc (xs.set i.toNat x) := by simp [encs, List.map_set]
  rwa [he] at hs
end
section
variable {α : Type} {P : Program} {ops : Array Oper} {rest : List Oper} {o : Oper} {a : Act} {Q : Exit → Act → World → Prop}
end
theorem blk_drew {w : World} {g : Nat} {o : Obj} (h : w.heap[g]? = some o) : w.drew.heap[g]? = some o := h
theorem blk_drewN {w : World} {g : Nat} {o : Obj} (h : w.heap[g]? = some o) (n : Nat) : (w.drewN n).heap[g]? = some o := h
theorem blk_below {w w1 : World} {g : Nat} {o : Obj} (h : w.heap[g]? = some o) (hb : Below w.heap.size w w1) : w1.heap[g]? = some o := (hb.block g (blk_lt h)).trans h
theorem blk_new (w : World) (o : Obj) : (w.alloc o).heap[w.heap.size]? = some o := heap_alloc_new w o
section
variable {P : Program}
end
theorem own_le {w : World} {base n m c size : Nat} {e : TypeId} {A : Option Addr} {xs : List Value} (h : w.ownsRow base e size (.slice A m c) n xs) : m ≤ c := by
  rcases h.2 with ⟨he, _⟩ | ⟨g, cap, cur, he, _, _, hnc, _⟩
  · injection he with _ h2 h3
    omega
  · injection he with _ h2 h3
    omega
def OwnRow {α : Type} (R : α → List Value → Prop) (e : TypeId) (size : Nat) (w : World) (base : Nat) (v : Value) (ps : List α) : Prop :=
  ∃ inner, w.ownsRow base e size v ps.length inner ∧ Reps R size ps inner
section
variable {α : Type} {R R' : α → List Value → Prop} {e : TypeId} {size : Nat} {w w1 : World} {base : Nat} {v : Value} {ps : List α}
theorem OwnRow.none_ (R : α → List Value → Prop) (e : TypeId) (size : Nat) (w : World) (base : Nat) : OwnRow R e size w base (.slice none 0 0) [] := ⟨[], own_nil _ _ _ _, Reps.none _ _⟩
theorem OwnRow.imp_ (h : OwnRow R e size w base v ps) (hR : ∀ p c, R p c → R' p c) : OwnRow R' e size w base v ps := by
  obtain ⟨inner, ho, hr⟩ := h
  exact ⟨inner, ho, hr.imp_ hR⟩
theorem OwnRow.reads (h : OwnRow R e size w base v ps) : ∃ A c, v = .slice A ps.length c ∧ ps.length ≤ c ∧ ReadsRow R size w A ps.length ps := by
  obtain ⟨inner, ho, hr⟩ := h
  obtain ⟨A, c, rfl, hrow⟩ := own_reads_row ho hr rfl
  exact ⟨A, c, rfl, own_le ho, hrow⟩
theorem OwnRow.ne_block (h : OwnRow R e size w base v ps) {g : Nat} {t : TypeId} {cells : Array Value} (hb : w.heap[g]? = some (.cells cells t (0, 0))) (ht : e ≠ t) : some g ≠ v.ownBlock := by
  obtain ⟨inner, ho, hr⟩ := h
  exact own_ne ho hb ht
end
section
variable {P : Program} {ops : Array Oper} {rest : List Oper} {o : Oper} {a : Act} {Q : Exit → Act → World → Prop} {α : Type} {R : α → List Value → Prop}
end
section
variable {P : Program} {ops : Array Oper} {o : Oper} {a : Act} {Q : Exit → Act → World → Prop} {K : Act → World → Prop} {α : Type} {R : α → List Value → Prop}
end
section
variable {α : Type} {P : Program}
end
section
variable {P : Program} {ops : Array Oper} {rest : List Oper} {o : Oper} {a : Act} {Q : Exit → Act → World → Prop}
end
structure Kd (α : Type) where
  sz : Nat
  E : List Nat
  K : World → α → List Value → Prop
  M : World → Nat → (Nat → Prop) → α → List Value → Prop
  K_len : ∀ {w x cs}, K w x cs → cs.length = sz
  K_one : ∀ {w x cs}, K w x cs → ∀ u ∈ cs, u.oneCell' = true
  K_below : ∀ {w w1 : World} {x cs}, Below w.heap.size w w1 → K w x cs → K w1 x cs
  K_of_M : ∀ {w base ok x cs}, M w base ok x cs → K w x cs
  M_mono : ∀ {w base ok ok' x cs}, (∀ k, ok k → ok' k) → M w base ok x cs → M w base ok' x cs
  M_bound : ∀ {w : World} {base ok x cs}, M w base ok x cs → M w base (fun k => ok k ∧ base ≤ k ∧ k < w.heap.size ∧ ∃ q, q ∈ E ∧ ∃ cells, w.heap[k]? = some (.cells cells q (0, 0))) x cs
  M_move : ∀ {w w1 : World} {base ok x cs}, (∀ k, ok k → w1.heap[k]? = w.heap[k]?) → M w base ok x cs → M w1 base ok x cs
  M_lower : ∀ {w base base' ok x cs}, base' ≤ base → M w base ok x cs → M w base' ok x cs
theorem own_move {w w1 : World} {base : Nat} {e : TypeId} {size n : Nat} {v : Value} {xs : List Value} (h : w.ownsRow base e size v n xs) (hm : ∀ k, v.ownBlock = some k → w1.heap[k]? = w.heap[k]?) : w1.ownsRow base e size v n xs := by
  obtain ⟨h1, h2⟩ := h
  refine ⟨h1, ?_⟩
  rcases h2 with h2 | ⟨g, cap, cur, rfl, hg, hh, r⟩
  · exact .inl h2
  · exact .inr ⟨g, cap, cur, rfl, hg, (hm g (by simp [Value.ownBlock])).trans hh, r⟩
theorem own_typed {w : World} {base : Nat} {e : TypeId} {size n : Nat} {v : Value} {xs : List Value} (h : w.ownsRow base e size v n xs) (k : Nat) (hk : v.ownBlock = some k) : ∃ cells, w.heap[k]? = some (.cells cells e (0, 0)) := by
  rcases h.2 with ⟨rfl, _⟩ | ⟨g, cap, cur, rfl, hg, hh, r⟩
  · simp [Value.ownBlock] at hk
  · have : g = k := by simpa [Value.ownBlock] using hk
    subst this
    exact ⟨cur, hh⟩
namespace Kd
def C {α : Type} (d : Kd α) (w : World) (A : Option Addr) (n : Nat) (xs : List α) : Prop := ReadsRow (d.K w) d.sz w A n xs
def R {α : Type} (d : Kd α) (e : Nat) (w : World) (base : Nat) (ok : Nat → Prop) (v : Value) (xs : List α) : Prop :=
  (∀ k, v.ownBlock = some k → ok k) ∧ OwnRow (d.M w base (fun k => ok k ∧ some k ≠ v.ownBlock)) e d.sz w base v xs
section
variable {α : Type} {d : Kd α} {e : Nat} {w w1 : World} {base : Nat} {ok ok' : Nat → Prop} {v : Value} {xs : List α}
theorem C_below {A : Option Addr} {n : Nat} (h : d.C w A n xs) (hb : Below w.heap.size w w1) : d.C w1 A n xs := ReadsRow.imp_ h hb (fun _ _ hp => d.K_below hb hp)
theorem R_nil (d : Kd α) (e : Nat) (w : World) (base : Nat) (ok : Nat → Prop) : d.R e w base ok (.slice none 0 0) [] := ⟨fun k hk => by simp [Value.ownBlock] at hk, OwnRow.none_ _ _ _ _ _⟩
theorem R_mono (h : d.R e w base ok v xs) (hok : ∀ k, ok k → ok' k) : d.R e w base ok' v xs := ⟨fun k hk => hok k (h.1 k hk), h.2.imp_ (fun _ _ hp => d.M_mono (fun k hk => ⟨hok k hk.1, hk.2⟩) hp)⟩
theorem R_bound (h : d.R e w base ok v xs) : d.R e w base (fun k => ok k ∧ base ≤ k ∧ k < w.heap.size ∧ ∃ q, q ∈ e :: d.E ∧ ∃ cells, w.heap[k]? = some (.cells cells q (0, 0))) v xs := by
  obtain ⟨h0, inner, ho, hr⟩ := h
  refine ⟨fun k hk => ?_, inner, ho, hr.imp_ (fun _ _ hp => d.M_mono (fun k hk => ?_) (d.M_bound hp))⟩
  · obtain ⟨cells, hc⟩ := own_typed ho k hk
    exact ⟨h0 k hk, own_base ho k hk, own_lt ho k hk, e, List.mem_cons_self, cells, hc⟩
  · obtain ⟨⟨h1, h2⟩, h3, h4, q, hq, hc⟩ := hk
    exact ⟨⟨h1, h3, h4, q, List.mem_cons_of_mem _ hq, hc⟩, h2⟩
theorem R_move (h : d.R e w base ok v xs) (hm : ∀ k, ok k → w1.heap[k]? = w.heap[k]?) : d.R e w1 base ok v xs := by
  obtain ⟨h0, inner, ho, hr⟩ := h
  exact ⟨h0, inner, own_move ho (fun k hk => hm k (h0 k hk)), hr.imp_ (fun _ _ hp => d.M_move (fun k hk => hm k hk.1) hp)⟩
theorem R_lower {base' : Nat} (h : d.R e w base ok v xs) (hb : base' ≤ base) : d.R e w base' ok v xs := by
  obtain ⟨h0, inner, ho, hr⟩ := h
  exact ⟨h0, inner, own_weaken ho hb, hr.imp_ (fun _ _ hp => d.M_lower hb hp)⟩
theorem R_step (h : d.R e w base ok v xs) (hm : ∀ k, ok k → k < w.heap.size → w1.heap[k]? = w.heap[k]?) : d.R e w1 base ok v xs :=
  R_mono (R_move (R_bound h) (fun k hk => hm k hk.1 hk.2.2.1)) (fun _ hk => hk.1)
theorem M_step {x : α} {cs : List Value} (h : d.M w base ok x cs) (hm : ∀ k, ok k → k < w.heap.size → w1.heap[k]? = w.heap[k]?) : d.M w1 base ok x cs :=
  d.M_mono (fun _ hk => hk.1) (d.M_move (fun k hk => hm k hk.1 hk.2.2.1) (d.M_bound h))
theorem R_below (h : d.R e w base ok v xs) (hb : Below w.heap.size w w1) : d.R e w1 base ok v xs := R_step h (fun k _ hk => hb.block k hk)
theorem M_below {x : α} {cs : List Value} (h : d.M w base ok x cs) (hb : Below w.heap.size w w1) : d.M w1 base ok x cs := M_step h (fun k _ hk => hb.block k hk)
theorem R_far (h : d.R e w base ok v xs) {p : Addr} (hok : ∀ k, ok k → k ≠ p.block) (u : Value) : d.R e (w.setCell p u) base ok v xs := R_step h (fun k ho _ => Below.heap_setCell w p u k (hok k ho))
theorem R_types (h : d.R e w base ok v xs) {g t : Nat} {cells : Array Value} (hb : w.heap[g]? = some (.cells cells t (0, 0))) (ht : ∀ q, q ∈ e :: d.E → q ≠ t) : d.R e w base (fun k => ok k ∧ k ≠ g) v xs :=
  R_mono (R_bound h) (fun k hk => ⟨hk.1, by
    obtain ⟨_, _, _, q, hq, cells', hc⟩ := hk
    rintro rfl
    rw [hc] at hb
    injection hb with hb
    injection hb with _ hb
    exact ht q hq hb⟩)
theorem R_reads (h : d.R e w base ok v xs) : ∃ A c, v = .slice A xs.length c ∧ xs.length ≤ c ∧ d.C w A xs.length xs := by
  obtain ⟨A, c, he, hl, hr⟩ := OwnRow.reads h.2
  exact ⟨A, c, he, hl, hr.imp_ (Below.refl _ _) (fun _ _ hp => d.K_of_M hp)⟩
theorem R_slice (h : d.R e w base ok v xs) : ∃ A c, v = .slice A xs.length c := by
  obtain ⟨A, c, he, _⟩ := R_reads h
  exact ⟨A, c, he⟩
theorem R_own (h : d.R e w base ok v xs) : ∃ inner, w.ownsRow base e d.sz v xs.length inner := by
  obtain ⟨_, inner, ho, _⟩ := h
  exact ⟨inner, ho⟩
theorem R_ne (h : d.R e w base ok v xs) {g t : Nat} {cells : Array Value} (hb : w.heap[g]? = some (.cells cells t (0, 0))) (ht : e ≠ t) : some g ≠ v.ownBlock := OwnRow.ne_block h.2 hb ht
end
def scalar {α : Type} (enc : α → Value) (h1 : ∀ x, (enc x).oneCell' = true) : Kd α where
  sz := 1
  E := []
  K := fun _ x cs => cs = [enc x]
  M := fun _ _ _ x cs => cs = [enc x]
  K_len := fun h => by rw [h]; rfl
  K_one := fun h u hu => by
    rw [h] at hu
    rw [List.mem_singleton.1 hu]
    exact h1 _
  K_below := fun _ h => h
  K_of_M := fun h => h
  M_mono := fun _ h => h
  M_bound := fun h => h
  M_move := fun _ h => h
  M_lower := fun _ h => h
def int (k : IntKind) : Kd Int := scalar (Value.int k) (fun _ => rfl)
def bool : Kd Bool := scalar Value.bool (fun _ => rfl)
def slice {α : Type} (e : Nat) (d : Kd α) : Kd (List α) where
  sz := 1
  E := e :: d.E
  K := fun w xs cs => ∃ A c, cs = [.slice A xs.length c] ∧ xs.length ≤ c ∧ d.C w A xs.length xs
  M := fun w base ok xs cs => ∃ v, cs = [v] ∧ d.R e w base ok v xs
  K_len := by
    rintro w x cs ⟨A, c, rfl, _⟩
    rfl
  K_one := by
    rintro w x cs ⟨A, c, rfl, _⟩ u hu
    rw [List.mem_singleton.1 hu]
    rfl
  K_below := by
    rintro w w1 x cs hb ⟨A, c, rfl, hl, hr⟩
    exact ⟨A, c, rfl, hl, C_below hr hb⟩
  K_of_M := by
    rintro w base ok x cs ⟨v, rfl, h⟩
    obtain ⟨A, c, rfl, hl, hr⟩ := R_reads h
    exact ⟨A, c, rfl, hl, hr⟩
  M_mono := by
    rintro w base ok ok' x cs hok ⟨v, rfl, h⟩
    exact ⟨v, rfl, R_mono h hok⟩
  M_bound := by
    rintro w base ok x cs ⟨v, rfl, h⟩
    exact ⟨v, rfl, R_bound h⟩
  M_move := by
    rintro w w1 base ok x cs hm ⟨v, rfl, h⟩
    exact ⟨v, rfl, R_move h hm⟩
  M_lower := by
    rintro w base base' ok x cs hb ⟨v, rfl, h⟩
    exact ⟨v, rfl, R_lower h hb⟩
def bot {α : Type} (sz : Nat) (E : List Nat) : Kd α where
  sz := sz
  E := E
  K := fun _ _ _ => False
  M := fun _ _ _ _ _ => False
  K_len := fun h => h.elim
  K_one := fun h => h.elim
  K_below := fun _ h => h
  K_of_M := fun h => h
  M_mono := fun _ h => h
  M_bound := fun h => h
  M_move := fun _ h => h
  M_lower := fun _ h => h
def upto {α : Type} (F : Kd α → Kd α) (sz : Nat) (E : List Nat) : Nat → Kd α
  | 0 => bot sz E
  | n + 1 => F (upto F sz E n)
theorem C_get {α : Type} {d : Kd α} {w : World} {A : Option Addr} {n : Nat} {xs : List α} (h : d.C w A n xs) (z : α) (i : Int) (h0 : 0 ≤ i) (h1 : i < n) :
    ∃ ad c, A = some ad ∧ c.length = d.sz ∧ d.K w (xs.getD i.toNat z) c ∧ ∀ j u, c[j]? = some u → w.cell? (ad.add (i.toNat * d.sz + j)) = some u := ReadsRow.get_ h z i h0 h1
theorem R_appended {α : Type} {d : Kd α} {e base : Nat} {ok okp : Nat → Prop} {W w1 : World} {v v1 : Value} {xs : List α} {p : α} {inner cs : List Value} (h0 : ∀ k, v.ownBlock = some k → ok k) (hr : Reps (d.M W base (fun k => ok k ∧ some k ≠ v.ownBlock)) d.sz xs inner) (hp : d.M W base okp p cs) (hokp : ∀ k, okp k → ok k ∧ some k ≠ v.ownBlock) (hfresh : ∀ k, W.heap.size ≤ k → ok k)
    (hown : w1.ownsRow base e d.sz v1 (xs.length + 1) (inner ++ cs)) (hg : W.grownBy w1 v.ownBlock) (hat : v1.ownBlock = v.ownBlock ∨ ∃ b, v1.ownBlock = some b ∧ W.heap.size ≤ b) : d.R e w1 base ok v1 (xs ++ [p]) := by
  have hne : ∀ k, some k ≠ v.ownBlock → k < W.heap.size → some k ≠ v1.ownBlock := by
    intro k hk hlt
    rcases hat with hat | ⟨b, hb, hle⟩
    · rw [hat]; exact hk
    · rw [hb]
      intro he
      injection he with he
      omega
  have step : ∀ {q : α} {c : List Value} {o : Nat → Prop}, d.M W base o q c → (∀ k, o k → ok k ∧ some k ≠ v.ownBlock) → d.M w1 base (fun k => ok k ∧ some k ≠ v1.ownBlock) q c := by
    intro q c o hq ho
    have h1 := d.M_move (w1 := w1) (fun k hk => hg.block k hk.2.2.1 (ho k hk.1).2) (d.M_bound hq)
    exact d.M_mono (fun k hk => ⟨(ho k hk.1).1, hne k (ho k hk.1).2 hk.2.2.1⟩) h1
  refine ⟨fun k hk => ?_, inner ++ cs, by rw [List.length_append, List.length_singleton]; exact hown, ?_⟩
  · rcases hat with hat | ⟨b, hb, hle⟩
    · exact h0 k (hat ▸ hk)
    · rw [hb] at hk
      injection hk with hk
      exact hfresh k (by omega)
  · exact (hr.imp_ (fun _ _ hq => step hq (fun _ hk => hk))).snoc (step hp hokp) (d.K_len (d.K_of_M hp))
section
variable {P : Program} {ops : Array Oper} {rest : List Oper} {o : Oper} {a : Act} {Q : Exit → Act → World → Prop} {α : Type}
theorem R_append (d : Kd α) {w0 W : World} (base : Nat) (hgd : o.guard = none) (s x : Operand) (t e : TypeId) (z : Value) (bytes : Nat)
    (ho : o.op = .call { callee := .builtin .append, args := #[s, x], argTypes := #[t, t] })
    (ht : P.underlying t = some (.slice e)) (hinfo : (P.info? e).map (fun i => (i.zero, i.size, i.bytes)) = some (some z, d.sz, bytes)) (hz : z.cells.size = d.sz) (hs0 : 0 < d.sz) (hb0 : 0 < bytes)
    (v : Value) (xs : List α) (p : α) (cs : List Value) (ok okp : Nat → Prop) (hs : a.eval s = v) (hx : a.eval x = .slice (some ⟨W.heap.size, 0, none⟩) 1 1) (hp : d.M W base okp p cs) (hokp : ∀ k, okp k → ok k ∧ some k ≠ v.ownBlock) (hfresh : ∀ k, W.heap.size ≤ k → ok k)
    (HO : d.R e W base ok v xs) (HB : Below base w0 W) (hbase : base ≤ W.heap.size) (hl : (xs.length + 1) * bytes ≤ 140737488355328)
    (h : ∀ v1 w1, d.R e w1 base ok v1 (xs ++ [p]) → Below base w0 w1 → W.grownBy w1 v.ownBlock → (v1.ownBlock = v.ownBlock ∨ ∃ b, v1.ownBlock = some b ∧ W.heap.size ≤ b) → wpList P ops Q rest (a.put o.dst v1) w1) :
    wpList P ops Q (o :: rest) a (W.alloc (.cells cs.toArray e)) := by
  obtain ⟨h0, inner, hown, hr⟩ := HO
  refine print_append_cells base hgd s x t e z d.sz bytes ho ht hinfo hz hs0 hb0 v xs.length inner cs hs hx (d.K_len (d.K_of_M hp)) (d.K_one (d.K_of_M hp)) hown HB hbase hl ?_
  intro v1 w1 hown1 hb1 hg1 hat1
  exact h v1 w1 (R_appended h0 hr hp hokp hfresh hown1 hg1 hat1) hb1 hg1 hat1
end
section
variable {P : Program} {ops : Array Oper} {o : Oper} {a : Act} {Q : Exit → Act → World → Prop} {Kc : Act → World → Prop} {α : Type}
end
theorem reps_scalar {α : Type} {enc : α → Value} (xs : List α) : Reps (fun (x : α) (cs : List Value) => cs = [enc x]) 1 xs (encs enc xs) := by
  refine ⟨by simp [encs], fun j p hj => ?_⟩
  obtain ⟨hl, hp⟩ := List.getElem?_eq_some_iff.1 hj
  have hl' : j < (encs enc xs).length := by rw [encs_length]; exact hl
  rw [Nat.mul_one, List.drop_eq_getElem_cons hl']
  simp [encs, hp]
theorem R_of_own {α : Type} {enc : α → Value} {h1 : ∀ x, (enc x).oneCell' = true} {e : Nat} {w : World} {base : Nat} {ok : Nat → Prop} {v : Value} {xs : List α} (ho : w.ownsRow base e 1 v xs.length (encs enc xs)) (hok : ∀ k, v.ownBlock = some k → ok k) : (scalar enc h1).R e w base ok v xs := ⟨hok, encs enc xs, ho, reps_scalar xs⟩
theorem own_of_R {α : Type} {enc : α → Value} {h1 : ∀ x, (enc x).oneCell' = true} {e : Nat} {w : World} {base : Nat} {ok : Nat → Prop} {v : Value} {xs : List α} (h : (scalar enc h1).R e w base ok v xs) : w.ownsRow base e 1 v xs.length (encs enc xs) := by
  obtain ⟨_, inner, ho, hr⟩ := h
  have : inner = encs enc xs := by
    apply List.ext_getElem?
    intro j
    rcases Nat.lt_or_ge j xs.length with hj | hj
    · have h2 := hr.2 j _ (List.getElem?_eq_getElem hj)
      have hl : j < inner.length := by have := hr.1; simp [scalar] at this; omega
      have h3 : (inner.drop (j * 1)).take 1 = [enc xs[j]] := h2
      rw [Nat.mul_one, List.drop_eq_getElem_cons hl] at h3
      have h4 : inner[j] = enc xs[j] := by
        have h5 := congrArg List.head? h3
        rw [List.take_succ_cons] at h5
        exact Option.some.inj h5
      rw [List.getElem?_eq_getElem hl, h4]
      simp [encs, List.getElem?_eq_getElem hj]
    · have h3 : inner.length = xs.length := by have := hr.1; simp [scalar] at this; omega
      rw [List.getElem?_eq_none (by omega), List.getElem?_eq_none (by rw [encs_length]; omega)]
  rw [← this]
  exact ho
theorem reads_of_C {α : Type} {enc : α → Value} {d : α} {h1 : ∀ x, (enc x).oneCell' = true} {w : World} {A : Option Addr} {n : Nat} {xs : List α} (h : (scalar enc h1).C w A n xs) : ReadsOf enc d w A n xs := by
  refine ⟨h.1, h.2.1, fun hn => ?_⟩
  obtain ⟨ad, e, hc⟩ := h.2.2 hn
  refine ⟨ad, e, fun j hj => ?_⟩
  have hl : j < xs.length := by have := h.1; omega
  obtain ⟨c, _, hK, hcell⟩ := hc j _ (List.getElem?_eq_getElem hl)
  have hK' : c = [enc xs[j]] := hK
  subst hK'
  have := hcell 0 _ rfl
  simpa [scalar, List.getD_eq_getElem?_getD, List.getElem?_eq_getElem hl] using this
end Kd
namespace Kd
section
variable {α : Type} {F : Kd α → Kd α} {sz : Nat} {E : List Nat} {hs : ∀ n, (upto F sz E n).sz = sz} {hE : ∀ n q, q ∈ (upto F sz E n).E → q ∈ E}
end
end Kd
namespace Kd
theorem R_after {α : Type} {d : Kd α} {e base : Nat} {ok : Nat → Prop} {W w1 : World} {u v v1 : Value} {xs : List α} (h : d.R e W base (fun k => ok k ∧ some k ≠ v.ownBlock) u xs) (hg : W.grownBy w1 v.ownBlock) (hat : v1.ownBlock = v.ownBlock ∨ ∃ b, v1.ownBlock = some b ∧ W.heap.size ≤ b) : d.R e w1 base (fun k => ok k ∧ some k ≠ v1.ownBlock) u xs := by
  refine R_mono (R_move (R_bound h) (fun k hk => hg.block k hk.2.2.1 hk.1.2)) (fun k hk => ⟨hk.1.1, ?_⟩)
  rcases hat with hat | ⟨b, hb, hle⟩
  · rw [hat]; exact hk.1.2
  · rw [hb]
    intro he
    injection he with he
    have := hk.2.2.1
    omega
theorem M_row {α : Type} {d : Kd α} {e base : Nat} {ok : Nat → Prop} {w : World} {v : Value} {xs : List α} (h : d.R e w base ok v xs) : (slice e d).M w base ok xs [v] := ⟨v, rfl, h⟩
end Kd
namespace Kd
section
variable {α β : Type} {d : Kd α} {d' : Kd β} {e e' : Nat} {w w1 W : World} {base b b' : Nat} {ok ok' okv oku : Nat → Prop} {v u : Value} {xs : List α} {ys : List β}
theorem R_drew (h : d.R e w base ok v xs) : d.R e w.drew base ok v xs := R_below h (below_drew (Below.refl _ _))
theorem R_drewN (h : d.R e w base ok v xs) (m : Nat) : d.R e (w.drewN m) base ok v xs := R_below h (pw_below_drewN (Below.refl _ _) m)
theorem C_drew {A : Option Addr} {n : Nat} (h : d.C w A n xs) : d.C w.drew A n xs := C_below h (below_drew (Below.refl _ _))
theorem C_drewN {A : Option Addr} {n : Nat} (h : d.C w A n xs) (m : Nat) : d.C (w.drewN m) A n xs := C_below h (pw_below_drewN (Below.refl _ _) m)
theorem R_reads' {A : Option Addr} {n c : Nat} (h : d.R e w base ok (.slice A n c) xs) : n = xs.length ∧ n ≤ c ∧ d.C w A xs.length xs := by
  obtain ⟨A', c', he, hl, hr⟩ := R_reads h
  injection he with h1 h2 h3
  subst h1
  exact ⟨h2, by omega, hr⟩
theorem R_lt (h : d.R e w base ok v xs) : ∀ k, v.ownBlock = some k → k < w.heap.size := by
  obtain ⟨inner, ho⟩ := R_own h
  exact own_lt ho
theorem R_base (h : d.R e w base ok v xs) : ∀ k, v.ownBlock = some k → base ≤ k := by
  obtain ⟨inner, ho⟩ := R_own h
  exact own_base ho
theorem R_away (h : d.R e w base ok v xs) {g : Nat} (hok : ∀ k, ok k → k ≠ g) : some g ≠ v.ownBlock := fun e => hok g (h.1 g e.symm) rfl
theorem R_form (h : d.R e w base ok v xs) (hp : 0 < xs.length) : ∃ g cap, v = .slice (some ⟨g, 0, none⟩) xs.length cap ∧ base ≤ g ∧ g < w.heap.size ∧ ∃ cells, w.heap[g]? = some (.cells cells e (0, 0)) := by
  obtain ⟨inner, ho⟩ := R_own h
  obtain ⟨g, cap, he, hb, hl⟩ := ho.form hp
  obtain ⟨cells, hc⟩ := own_typed ho g (by rw [he]; simp [Value.ownBlock])
  exact ⟨g, cap, he, hb, hl, cells, hc⟩
end
section
variable {w W : World} {A : Option Addr} {n : Nat}
theorem at_int {k : IntKind} {xs : List Int} (h : (Kd.int k).C w A n xs) (i : Int) (h0 : 0 ≤ i) (h1 : i < n) : ∃ ad, A = some ad ∧ w.cell? (ad.add i.toNat) = some (.int k (rd xs i)) :=
  ReadsOf.at_ (reads_of_C (enc := Value.int k) (d := (0 : Int)) (h1 := fun _ => rfl) h) i h0 h1
theorem at_bool {xs : List Bool} (h : Kd.bool.C w A n xs) (i : Int) (h0 : 0 ≤ i) (h1 : i < n) : ∃ ad, A = some ad ∧ w.cell? (ad.add i.toNat) = some (.bool (rdOf false xs i)) :=
  ReadsOf.at_ (reads_of_C (enc := Value.bool) (d := false) (h1 := fun _ => rfl) h) i h0 h1
variable {α : Type} {enc : α → Value} {h1 : ∀ x, (enc x).oneCell' = true} {e base g cap : Nat} {ok : Nat → Prop} {xs : List α}
theorem R_cell (d : α) (h : (scalar enc h1).R e W base ok (.slice (some ⟨g, 0, none⟩) xs.length cap) xs) (i : Int) (h0 : 0 ≤ i) (hi : i < xs.length) : W.cell? ⟨g, i.toNat, none⟩ = some (enc (rdOf d xs i)) ∧ W.frozen? ⟨g, i.toNat, none⟩ = false := own_at_of (own_of_R h) i h0 hi
theorem R_put (h : (scalar enc h1).R e W base ok (.slice (some ⟨g, 0, none⟩) xs.length cap) xs) (i : Int) (x : α) : (scalar enc h1).R e (W.setCell ⟨g, i.toNat, none⟩ (enc x)) base ok (.slice (some ⟨g, 0, none⟩) xs.length cap) (xs.set i.toNat x) ∧ W.grownBy (W.setCell ⟨g, i.toNat, none⟩ (enc x)) (some g) := by
  obtain ⟨ho, hg⟩ := own_store_of (own_of_R h) i x
  exact ⟨R_of_own (by rw [List.length_set]; exact ho) h.1, hg⟩
end
section
variable {P : Program} {ops : Array Oper} {rest : List Oper} {o : Oper} {a : Act} {Q : Exit → Act → World → Prop}
theorem event_run {W w1 : World} {v : Value} (hgd : o.guard = none) (hrun : (execOp a.eval o).run P W = .ok (.value v) w1) (h : wpList P ops Q rest (a.put o.dst v) w1) : wpList P ops Q (o :: rest) a W := by
  refine wpList_plain hgd fun K hK => ?_
  unfold Oper.wp
  rw [hrun]
  exact hK _ _ h
variable {α : Type}
theorem R_lit (d : Kd α) {w0 W : World} (base e : Nat) (hgd : o.guard = none) {N : Tmp} (_hd : o.dst = some N) {xs : List α} {inner : List Value} {ok okp : Nat → Prop}
    (hrun : (execOp a.eval o).run P W = .ok (.value (.slice (some ⟨W.heap.size, 0, none⟩) xs.length xs.length)) (W.alloc (.cells inner.toArray e)))
    (hrep : Reps (d.M W base okp) d.sz xs inner) (hok : ∀ k, okp k → ok k) (hfresh : ok W.heap.size) (HB : Below base w0 W) (hbase : base ≤ W.heap.size) (hm : xs.length ≤ 9223372036854775807)
    (h : ∀ v1 w1, d.R e w1 base ok v1 xs → Below base w0 w1 → W.grownBy w1 none → (∃ b, v1.ownBlock = some b ∧ W.heap.size ≤ b) → wpList P ops Q rest (a.put o.dst v1) w1) : wpList P ops Q (o :: rest) a W := by
  refine event_run hgd hrun (h _ _ ⟨fun k hk => ?_, inner, ?_, ?_⟩ (HB.alloc hbase _) (World.grownBy_alloc W _ none) ⟨W.heap.size, by simp [Value.ownBlock], Nat.le_refl _⟩)
  · have : W.heap.size = k := by simpa [Value.ownBlock] using hk
    subst this
    exact hfresh
  · have h2 := World.ownsRow_lit (base := base) (e := e) (size := d.sz) W inner.toArray xs.length hbase (by simpa [maxLen] using hm) (by simpa using hrep.1)
    simpa using h2
  · refine hrep.imp_ (fun p c hp => d.M_mono (fun k hk => ⟨hok k hk.1, fun he => ?_⟩) (M_below (d.M_bound hp) (below_alloc (Below.refl _ _) _)))
    have h3 : k = W.heap.size := by simpa [Value.ownBlock] using he
    have := hk.2.2.1
    omega
theorem reps_made {α : Type} {R : α → List Value → Prop} {z : Value} {size : Nat} {z0 : α} (hz : z.cells.size = size) (hs : 0 < size) (h0 : R z0 z.cells.toList) (m : Nat) : Reps R size (List.replicate m z0) (madeCells z.cells (m * size)).toList := by
  refine ⟨by simp [size_madeCells], fun j p hj => ?_⟩
  obtain ⟨hjl, hp⟩ := List.getElem?_eq_some_iff.1 hj
  have hjm : j < m := by simpa using hjl
  have hp' : z0 = p := by simpa using hp
  subst hp'
  have hle : j * size + size ≤ m * size := by rw [← Nat.succ_mul]; exact Nat.mul_le_mul_right _ hjm
  have : ((madeCells z.cells (m * size)).toList.drop (j * size)).take size = z.cells.toList := by
    apply List.ext_getElem
    · simp [size_madeCells, hz]
      omega
    · intro i h1 h2
      have hi : i < size := by rw [Array.length_toList, hz] at h2; exact h2
      have hmod : (j * size + i) % size = i := by
        rw [Nat.mul_comm, Nat.mul_add_mod]
        exact Nat.mod_eq_of_lt hi
      simp [madeCells, hz, hmod]
      rw [getElem!_pos z.cells i (by omega)]
  rw [this]
  exact h0
theorem R_make (d : Kd α) {w0 W : World} (base e : Nat) (hgd : o.guard = none) {N : Tmp} (hd : o.dst = some N) (t : TypeId) (x y : Operand) (ho : o.op = .makeSlice t x y) (n : Int) (hx : a.eval x = .int .i64 n) (hy : a.eval y = .int .i64 n)
    (ht : P.underlying t = some (.slice e)) (z : Value) (bytes : Nat) (hinfo : (P.info? e).map (fun i => (i.zero, i.size, i.bytes)) = some (some z, d.sz, bytes)) (hz : z.cells.size = d.sz) (hs0 : 0 < d.sz) (hb0 : 0 < bytes)
    (z0 : α) {ok okp : Nat → Prop} (hzero : d.M W base okp z0 z.cells.toList) (hok : ∀ k, okp k → ok k) (hfresh : ok W.heap.size) (h0 : 0 ≤ n) (hl : n.toNat * bytes ≤ 281474976710656) (HB : Below base w0 W) (hbase : base ≤ W.heap.size)
    (h : ∀ v1 w1, d.R e w1 base ok v1 (List.replicate n.toNat z0) → Below base w0 w1 → W.grownBy w1 none → (∃ b, v1.ownBlock = some b ∧ W.heap.size ≤ b) → wpList P ops Q rest (a.put o.dst v1) w1) : wpList P ops Q (o :: rest) a W := by
  obtain ⟨m, rfl⟩ := Int.eq_ofNat_of_zero_le h0
  simp only [Int.toNat_natCast] at hl h
  obtain ⟨i0, hi, hzz⟩ := Option.map_eq_some_iff.1 hinfo
  simp only [Prod.mk.injEq] at hzz
  obtain ⟨hz0, hz1, hz2⟩ := hzz
  have hm : m ≤ 281474976710656 := Nat.le_trans (Nat.le_mul_of_pos_right _ hb0) hl
  have hr := run_make (P := P) W t e i0 z ht hi hz0 .i64 .i64 (m : Int) (m : Int) (by omega) (by omega)
    (by
      have h3 : ((i0.bytes * m : Nat) : Int) ≤ 281474976710656 := by rw [hz2, Nat.mul_comm]; omega
      rwa [Int.natCast_mul] at h3) (by omega)
  simp only [Int.toNat_natCast] at hr
  rw [hz1] at hr
  refine R_lit d base e hgd hd (xs := List.replicate m z0) (inner := (madeCells z.cells (m * d.sz)).toList) (okp := okp) (ok := ok) ?_ (reps_made hz hs0 hzero m) hok hfresh HB hbase (by simp; omega) h
  simp [execOp, ho, hx, hy, hr]
end
end Kd
theorem own_take {w : World} {base n m c size : Nat} {e : TypeId} {A : Option Addr} {xs : List Value} (h : w.ownsRow base e size (.slice A n c) n xs) (hm : m ≤ n) : w.ownsRow base e size (.slice A m c) m (xs.take (m * size)) := by
  obtain ⟨h1, h2⟩ := h
  refine ⟨by rw [List.length_take, h1]; exact Nat.min_eq_left (Nat.mul_le_mul_right _ hm), ?_⟩
  rcases h2 with ⟨he, h0⟩ | ⟨g, cap, cur, he, hb, hh, hnc, hcm, hcs, ht⟩
  · injection he with ha _ hc
    subst ha; subst hc
    exact .inl ⟨by rw [show m = 0 by omega], by omega⟩
  · injection he with ha _ hc
    subst ha; subst hc
    refine .inr ⟨g, c, cur, rfl, hb, hh, by omega, hcm, hcs, ?_⟩
    rw [← ht, List.take_take, Nat.min_eq_left (Nat.mul_le_mul_right _ hm)]
section
variable {P : Program}
theorem cut_to (t e : TypeId) (kh : IntKind) {i : TypeInfo} (ht : P.underlying t = some (.slice e)) (hi : P.info? e = some i) (A : Option Addr) (n c : Nat) (j : Int) (h0 : 0 ≤ j) (hm : j ≤ n) (hc : n ≤ c) :
    ∀ W : World, (Instr.slice t (.slice A n c) none (some (.int kh j)) none).run P W = .ok (.slice A j.toNat c) W := by
  intro W
  have hel : P.elem t = e := by simp [Program.elem, ht]
  have hu : P.underlying t = some (.slice (P.elem t)) := by rw [hel]; exact ht
  have ha : (A.map fun x => x.add 0) = A := by cases A <;> simp [Addr.add]
  rw [run_slice_h W t A n c hu kh j h0 (by omega), hel]
  simp [sizeOf, typeInfo, hi, sliced, Result.andThen, ha]
end
def QRow (w : World) (base : Nat) (e : TypeId) (size : Nat) (v : Value) (n : Nat) (xs : List Value) : Prop :=
  xs.length = n * size ∧
  ((n = 0 ∧ ∃ A, v = .slice A 0 0 ∧ ∀ a, A = some a → base ≤ a.block ∧ ∃ cur, w.heap[a.block]? = some (.cells cur e (0, 0))) ∨
   ∃ g off cap cur, v = .slice (some ⟨g, off * size, none⟩) n cap ∧ base ≤ g ∧ w.heap[g]? = some (.cells cur e (0, 0)) ∧ n ≤ cap ∧ off + cap ≤ maxLen ∧ cur.size = (off + cap) * size ∧ (cur.toList.drop (off * size)).take (n * size) = xs)
section
variable {w w1 : World} {base n size : Nat} {e : TypeId} {v : Value} {xs : List Value}
theorem add_at (g o j : Nat) : (⟨g, o, none⟩ : Addr).add j = ⟨g, o + j, none⟩ := by unfold Addr.add; split <;> simp_all
theorem setCells_far {g : Nat} : ∀ (vs : List Value) (o : Nat) {w : World} (k : Nat), k ≠ g → (w.setCells g o vs).heap[k]? = w.heap[k]?
  | [], _, _, _, _ => rfl
  | v :: r, o, w, k, hk => by
    rw [World.setCells, setCells_far r (o + 1) k hk]
    exact Below.heap_setCell w ⟨g, o, none⟩ v k hk
theorem setCells_same (g : Nat) : ∀ (vs : List Value) (o : Nat) (w : World), (w.setCells g o vs).os = w.os ∧ (w.setCells g o vs).tape = w.tape ∧ (w.setCells g o vs).output = w.output ∧ (w.setCells g o vs).heap.size = w.heap.size
  | [], _, _ => ⟨rfl, rfl, rfl, rfl⟩
  | v :: r, o, w => by
    obtain ⟨h1, h2, h3, h4⟩ := setCells_same g r (o + 1) (w.setCell ⟨g, o, none⟩ v)
    rw [World.setCells]
    exact ⟨h1, h2, h3, by rw [h4]; simp [World.setCell]⟩
theorem setCells_row {g : Nat} {e : TypeId} : ∀ (vs : List Value) (o : Nat) (w : World) (cur : Array Value), w.heap[g]? = some (.cells cur e (0, 0)) → o + vs.length ≤ cur.size →
    ∃ cur', (w.setCells g o vs).heap[g]? = some (.cells cur' e (0, 0)) ∧ cur'.size = cur.size ∧ cur'.toList = cur.toList.take o ++ vs ++ cur.toList.drop (o + vs.length)
  | [], o, w, cur, h, _ => ⟨cur, h, rfl, by simp⟩
  | v :: r, o, w, cur, h, hl => by
    have h2 := blk_set h o v
    simp only [List.length_cons] at hl
    obtain ⟨cur', h3, h4, h5⟩ := setCells_row r (o + 1) (w.setCell ⟨g, o, none⟩ v) _ h2 (by simp; omega)
    refine ⟨cur', h3, by rw [h4]; simp, ?_⟩
    rw [h5, Array.toList_setIfInBounds]
    have ho : o < cur.toList.length := by rw [Array.length_toList]; omega
    rw [List.take_set, List.drop_set_of_lt (by omega)]
    simp only [List.length_cons]
    rw [show o + 1 + r.length = o + (r.length + 1) by omega]
    congr 1
    rw [List.take_succ_eq_append_getElem ho, List.set_append_right _ _ (by rw [List.length_take]; omega)]
    have ho' : o < cur.size := by omega
    simp [Nat.min_eq_left (Nat.le_of_lt ho')]
end
section
variable {P : Program}
end
namespace Kd
theorem reps_take {α : Type} {R : α → List Value → Prop} {size m : Nat} {ps : List α} {cs : List Value} (h : Reps R size ps cs) (hm : m ≤ ps.length) : Reps R size (ps.take m) (cs.take (m * size)) := by
  refine ⟨by rw [List.length_take, List.length_take, h.1, Nat.min_eq_left hm, Nat.min_eq_left (Nat.mul_le_mul_right _ hm)], fun j p hj => ?_⟩
  rw [List.getElem?_take] at hj
  split at hj
  · rename_i hjm
    have := h.2 j p hj
    have hle : j * size + size ≤ m * size := by rw [← Nat.succ_mul]; exact Nat.mul_le_mul_right _ hjm
    rw [List.drop_take, List.take_take, Nat.min_eq_left (by omega)]
    exact this
  · cases hj
theorem R_take {α : Type} {d : Kd α} {e m n c : Nat} {w : World} {base : Nat} {ok : Nat → Prop} {A : Option Addr} {xs : List α} (h : d.R e w base ok (.slice A n c) xs) (hm : m ≤ xs.length) : d.R e w base ok (.slice A m c) (xs.take m) := by
  obtain ⟨h0, inner, ho, hr⟩ := h
  have hn : n = xs.length := by
    obtain ⟨A', c', he⟩ := own_slice ho
    injection he
  subst hn
  have hb : ∀ x y : Nat, (Value.slice A x c).ownBlock = (Value.slice A y c).ownBlock := by
    intro x y
    cases A <;> rfl
  refine ⟨fun k hk => h0 k (by rw [hb _ m]; exact hk), inner.take (m * d.sz), ?_, ?_⟩
  · rw [List.length_take, Nat.min_eq_left hm]
    exact own_take ho hm
  · rw [hb m xs.length]
    exact reps_take hr hm
def Q {α : Type} (d : Kd α) (e : Nat) (w : World) (base : Nat) (ok : Nat → Prop) (v : Value) (xs : List α) : Prop :=
  (∀ k, v.ownBlock = some k → ok k) ∧ ∃ inner, QRow w base e d.sz v xs.length inner ∧ Reps (d.M w base (fun k => ok k ∧ some k ≠ v.ownBlock)) d.sz xs inner
section
variable {α : Type} {d : Kd α} {e : Nat} {w w1 W : World} {base : Nat} {ok ok' : Nat → Prop} {v : Value} {xs : List α}
end
section
variable {P : Program} {ops : Array Oper} {rest : List Oper} {o : Oper} {a : Act} {Q' : Exit → Act → World → Prop} {Kc : Act → World → Prop} {α : Type}
end
end Kd
namespace Kd
section
variable {α : Type} {d : Kd α} {e e' : Nat} {w w1 W : World} {base : Nat} {ok : Nat → Prop} {u v : Value} {xs : List α}
theorem R_typed (h : d.R e w base ok v xs) : ∀ k, v.ownBlock = some k → ∃ cells, w.heap[k]? = some (.cells cells e (0, 0)) := by
  obtain ⟨inner, ho⟩ := R_own h
  exact fun k hk => own_typed ho k hk
theorem R_over' (h : d.R e W base ok u xs) (hty : ∀ k, v.ownBlock = some k → ∃ cells, W.heap[k]? = some (.cells cells e' (0, 0))) (ht : ∀ q, q ∈ e :: d.E → q ≠ e') (hg : W.grownBy w1 v.ownBlock) : d.R e w1 base ok u xs := by
  refine R_mono (R_move (R_bound h) (fun k hk => hg.block k hk.2.2.1 (fun he => ?_))) (fun _ hk => hk.1)
  obtain ⟨_, _, _, q, hq, cells, hc⟩ := hk
  obtain ⟨cells', hc'⟩ := hty k he.symm
  rw [hc] at hc'
  injection hc' with hc'
  injection hc' with _ hc'
  exact ht q hq hc'
theorem R_apart' (h : d.R e W base ok u xs) (hty : ∀ k, v.ownBlock = some k → ∃ cells, W.heap[k]? = some (.cells cells e' (0, 0))) (ht : ∀ q, q ∈ e :: d.E → q ≠ e') : d.R e W base (fun k => ok k ∧ some k ≠ v.ownBlock) u xs := by
  refine R_mono (R_bound h) (fun k hk => ⟨hk.1, fun he => ?_⟩)
  obtain ⟨_, _, _, q, hq, cells, hc⟩ := hk
  obtain ⟨cells', hc'⟩ := hty k he.symm
  rw [hc] at hc'
  injection hc' with hc'
  injection hc' with _ hc'
  exact ht q hq hc'
theorem R_elder' (hu : d.R e W base ok u xs) (hbase : ∀ k, v.ownBlock = some k → W.heap.size ≤ k) (hb : Below W.heap.size W w1) : d.R e w1 base (fun k => ok k ∧ some k ≠ v.ownBlock) u xs :=
  R_mono (R_move (R_bound hu) (fun k hk => hb.block k hk.2.2.1)) (fun k hk => ⟨hk.1, fun he => by have := hbase k he.symm; have := hk.2.2.1; omega⟩)
theorem R_new' (h : d.R e w1 W.heap.size ok v xs) (hlt : ∀ k, u.ownBlock = some k → k < W.heap.size) : d.R e w1 W.heap.size (fun k => ok k ∧ some k ≠ u.ownBlock) v xs :=
  R_mono (R_bound h) (fun k hk => ⟨hk.1, fun he => by have := hlt k he.symm; have := hk.2.1; omega⟩)
theorem fresh' (hlt : ∀ k, u.ownBlock = some k → k < W.heap.size) : ∀ k, W.heap.size ≤ k → some k ≠ u.ownBlock := fun k hk he => by have := hlt k he.symm; omega
end
end Kd
theorem seg_get {α : Type} (a seg : List α) (o : Nat) (h : o + seg.length ≤ a.length) (q : Nat) :
    (a.take o ++ seg ++ a.drop (o + seg.length))[q]? = if q < o then a[q]? else if q < o + seg.length then seg[q - o]? else a[q]? := by
  have hl : (a.take o).length = o := by rw [List.length_take]; omega
  rw [List.append_assoc]
  by_cases h1 : q < o
  · rw [if_pos h1, List.getElem?_append_left (by omega), List.getElem?_take, if_pos h1]
  · rw [if_neg h1, List.getElem?_append_right (by omega), hl]
    by_cases h2 : q < o + seg.length
    · rw [if_pos h2, List.getElem?_append_left (by omega)]
    · rw [if_neg h2, List.getElem?_append_right (by omega), List.getElem?_drop]
      congr 1
      omega
namespace Kd
section
variable {α : Type} {d : Kd α} {e base g n cap : Nat} {ok okp : Nat → Prop} {W : World} {xs : List α}
theorem R_elem (h : d.R e W base ok (.slice (some ⟨g, 0, none⟩) n cap) xs) (z : α) (i : Int) (h0 : 0 ≤ i) (h1 : i < n) :
    ∃ c, c.length = d.sz ∧ d.M W base (fun k => ok k ∧ k ≠ g) (xs.getD i.toNat z) c ∧ (∀ j u, c[j]? = some u → W.cell? ⟨g, i.toNat * d.sz + j, none⟩ = some u) ∧ ∀ j, W.frozen? ⟨g, i.toNat * d.sz + j, none⟩ = false := by
  obtain ⟨hn, hnc, hC⟩ := R_reads' h
  obtain ⟨_, inner, ho, hr⟩ := h
  have hil : i.toNat < xs.length := by omega
  have hseg : i.toNat * d.sz + d.sz ≤ inner.length := by rw [hr.1, ← Nat.succ_mul]; exact Nat.mul_le_mul_right _ hil
  have hM := hr.2 i.toNat _ (List.getElem?_eq_getElem hil)
  refine ⟨(inner.drop (i.toNat * d.sz)).take d.sz, by rw [List.length_take, List.length_drop]; omega, ?_, fun j u hu => ?_, fun j => ?_⟩
  · rw [List.getD_eq_getElem?_getD, List.getElem?_eq_getElem hil]
    exact d.M_mono (fun k hk => ⟨hk.1, fun he => hk.2 (by rw [he]; simp [Value.ownBlock])⟩) hM
  · rw [List.getElem?_take] at hu
    split at hu
    · rw [List.getElem?_drop] at hu
      have := ho.cells (g := g) (by simp [Value.ownBlock]) _ u hu
      rwa [add_plain] at this
    · cases hu
  · obtain ⟨cells, hc⟩ := own_typed ho g (by simp [Value.ownBlock])
    exact blk_frozen hc _
theorem R_seg (h : d.R e W base ok (.slice (some ⟨g, 0, none⟩) n cap) xs) (i : Int) (h0 : 0 ≤ i) (h1 : i < n) {c seg : List Value} {j : Nat} (hcl : c.length = d.sz) (hcc : ∀ j u, c[j]? = some u → W.cell? ⟨g, i.toNat * d.sz + j, none⟩ = some u)
    (hj : j + seg.length ≤ d.sz) {x' : α} (hM : d.M W base okp x' (c.take j ++ seg ++ c.drop (j + seg.length))) (hokp : ∀ k, okp k → ok k ∧ k ≠ g) :
    d.R e (W.setCells g (i.toNat * d.sz + j) seg) base ok (.slice (some ⟨g, 0, none⟩) n cap) (xs.set i.toNat x') ∧ W.grownBy (W.setCells g (i.toNat * d.sz + j) seg) (some g) := by
  obtain ⟨hn, hnc, _⟩ := R_reads' h
  obtain ⟨hok, inner, ho, hr⟩ := h
  have hil : i.toNat < xs.length := by omega
  have hseg : i.toNat * d.sz + d.sz ≤ inner.length := by rw [hr.1, ← Nat.succ_mul]; exact Nat.mul_le_mul_right _ hil
  have hin : inner.length = n * d.sz := by rw [hr.1, hn]
  obtain ⟨ho1, ho2⟩ := ho
  rcases ho2 with ⟨hv, _⟩ | ⟨g', cap', cur, hv, hb, hh, hnc', hcm, hcs, ht⟩
  · cases hv
  injection hv with ha _ hc
  injection ha with ha
  injection ha with hg
  subst hg; subst hc
  have hfit : i.toNat * d.sz + j + seg.length ≤ cur.size := by
    have : n * d.sz ≤ cap * d.sz := Nat.mul_le_mul_right _ hnc
    omega
  obtain ⟨cur', h3, h4, h5⟩ := setCells_row seg (i.toNat * d.sz + j) W cur hh hfit
  obtain ⟨s1, s2, s3, s4⟩ := setCells_same g seg (i.toNat * d.sz + j) W
  have hfar : ∀ k, k ≠ g → (W.setCells g (i.toNat * d.sz + j) seg).heap[k]? = W.heap[k]? := fun k hk => setCells_far seg _ k hk
  -- the element's cells before are what was read
  have hcin : ∀ q, q < d.sz → c[q]? = inner[i.toNat * d.sz + q]? := by
    intro q hq
    have hq' : q < c.length := by omega
    have h6 := hcc q _ (List.getElem?_eq_getElem hq')
    rw [cell_of_row W g _ cur e (0, 0) hh] at h6
    rw [List.getElem?_eq_getElem hq', ← h6, ← ht, List.getElem?_take, if_pos (by rw [← hn]; omega), Array.getElem?_toList]
  refine ⟨⟨hok, inner.take (i.toNat * d.sz + j) ++ seg ++ inner.drop (i.toNat * d.sz + j + seg.length), ⟨?_, .inr ⟨g, cap, cur', by rw [List.length_set, hn], hb, h3, by rw [List.length_set, ← hn]; exact hnc, hcm, by rw [h4, hcs], ?_⟩⟩, ?_⟩,
    ⟨s1, s2, s3, by rw [s4]; exact Nat.le_refl _, fun k _ hk => hfar k (fun he => hk (by rw [he]))⟩⟩
  · rw [List.length_set]
    simp only [List.length_append, List.length_take, List.length_drop]
    rw [hr.1] at hseg ⊢
    omega
  · rw [List.length_set, ← hn]
    apply List.ext_getElem?
    intro q
    rw [List.getElem?_take, h5]
    rw [seg_get cur.toList seg (i.toNat * d.sz + j) (by rw [Array.length_toList]; omega) q, seg_get inner seg (i.toNat * d.sz + j) (by omega) q]
    have hcur : ∀ q, q < n * d.sz → cur.toList[q]? = inner[q]? := by
      intro q hq
      rw [← ht, List.getElem?_take, if_pos (by rw [← hn]; exact hq)]
    by_cases hq : q < n * d.sz
    · rw [if_pos hq, hcur q hq]
    · rw [if_neg hq, if_neg (by omega), if_neg (by omega), List.getElem?_eq_none (by omega)]
  · refine ⟨?_, fun m p hm => ?_⟩
    · rw [List.length_set]
      simp only [List.length_append, List.length_take, List.length_drop]
      rw [hr.1] at hseg ⊢
      omega
    · have hml : m < xs.length := by
        have := (List.getElem?_eq_some_iff.1 hm).1
        rwa [List.length_set] at this
      have hmfit : m * d.sz + d.sz ≤ inner.length := by rw [hr.1, ← Nat.succ_mul]; exact Nat.mul_le_mul_right _ hml
      have hgo : some g = (Value.slice (some ⟨g, 0, none⟩) n cap).ownBlock := by simp [Value.ownBlock]
      by_cases hmi : m = i.toNat
      · subst hmi
        rw [List.getElem?_set_self (by omega)] at hm
        injection hm with hm
        subst hm
        have hcells : ((inner.take (i.toNat * d.sz + j) ++ seg ++ inner.drop (i.toNat * d.sz + j + seg.length)).drop (i.toNat * d.sz)).take d.sz = c.take j ++ seg ++ c.drop (j + seg.length) := by
          apply List.ext_getElem?
          intro q
          rw [List.getElem?_take, List.getElem?_drop, seg_get inner seg _ (by omega), seg_get c seg j (by omega) q]
          by_cases hq : q < d.sz
          · rw [if_pos hq, hcin q hq]
            by_cases hq1 : q < j
            · rw [if_pos (by omega), if_pos hq1]
            · rw [if_neg (by omega), if_neg hq1]
              by_cases hq2 : q < j + seg.length
              · rw [if_pos (by omega), if_pos hq2]
                congr 1
                omega
              · rw [if_neg (by omega), if_neg hq2]
          · rw [if_neg hq, if_neg (by omega), if_neg (by omega), List.getElem?_eq_none (by omega)]
        rw [hcells]
        refine d.M_mono (fun k hk => ?_) (d.M_move (w1 := W.setCells g (i.toNat * d.sz + j) seg) (fun k hk => hfar k (hokp k hk).2) hM)
        exact ⟨(hokp k hk).1, fun he => (hokp k hk).2 (by rw [← hgo] at he; injection he)⟩
      · rw [List.getElem?_set_ne (by omega)] at hm
        have hold := hr.2 m p hm
        have hcells : ((inner.take (i.toNat * d.sz + j) ++ seg ++ inner.drop (i.toNat * d.sz + j + seg.length)).drop (m * d.sz)).take d.sz = (inner.drop (m * d.sz)).take d.sz := by
          apply List.ext_getElem?
          intro q
          rw [List.getElem?_take, List.getElem?_take, List.getElem?_drop, List.getElem?_drop, seg_get inner seg _ (by omega)]
          by_cases hq : q < d.sz
          · rw [if_pos hq, if_pos hq]
            rcases Nat.lt_or_gt_of_ne hmi with hlt | hgt
            · have : m * d.sz + d.sz ≤ i.toNat * d.sz := by rw [← Nat.succ_mul]; exact Nat.mul_le_mul_right _ hlt
              rw [if_pos (by omega)]
            · have : i.toNat * d.sz + d.sz ≤ m * d.sz := by rw [← Nat.succ_mul]; exact Nat.mul_le_mul_right _ hgt
              rw [if_neg (by omega), if_neg (by omega)]
          · rw [if_neg hq, if_neg hq]
        rw [hcells]
        refine d.M_move (fun k hk => hfar k (fun he => hk.2 (by rw [he]; exact hgo))) hold
end
end Kd
namespace Kd
section
variable {α : Type} {F : Kd α → Kd α} {sz : Nat} {E : List Nat} {hs : ∀ n, (upto F sz E n).sz = sz} {hE : ∀ n q, q ∈ (upto F sz E n).E → q ∈ E}
end
end Kd
namespace Kd
section
variable {P : Program} {ops : Array Oper} {rest : List Oper} {o : Oper} {a : Act} {Q : Exit → Act → World → Prop} {α : Type}
end
end Kd
namespace Kd
section
variable {P : Program} {ops : Array Oper} {rest : List Oper} {o : Oper} {a : Act} {Q : Exit → Act → World → Prop} {α : Type}
end
end Kd
theorem add_add (a : Addr) (i j : Nat) : (a.add i).add j = a.add (i + j) := by
  unfold Addr.add
  by_cases h1 : i = 0 <;> by_cases h2 : j = 0 <;> simp [h1, h2, Nat.add_assoc]
namespace Kd
section
variable {α : Type} {k : Kd α} {w : World} {A : Option Addr} {xs : List α} {m c : Nat}
end
end Kd
section
variable {P : Program}
end
theorem below_size {w W : World} (h : Below w.heap.size w W) : w.heap.size ≤ W.heap.size := h.size
theorem below_step {w W w2 : World} (h : Below w.heap.size w W) (k : Below W.heap.size W w2) : Below w.heap.size w w2 := below_then h h.size k
theorem below_set {w W : World} {g j : Nat} {v : Value} (h : Below w.heap.size w W) (hg : w.heap.size ≤ g) : Below w.heap.size w (W.setCell ⟨g, j, none⟩ v) := h.setCell hg _
theorem add_block (a : Addr) (i : Nat) : (a.add i).block = a.block := by unfold Addr.add; split <;> rfl
theorem blk_put {w : World} {g : Nat} {t : TypeId} {cs cs' : Array Value} (h : w.heap[g]? = some (.cells cs t (0, 0))) (i : Nat) (u : Value) (e : cs.setIfInBounds i u = cs') : (w.setCell ⟨g, i, none⟩ u).heap[g]? = some (.cells cs' t (0, 0)) := e ▸ blk_set h i u
theorem below_drew1 {base : Nat} {w W : World} (h : Below base w W) : Below base w W.drew := h.drew
namespace Kd
section
variable {α β : Type} {d : Kd α} {d' : Kd β} {e e' base base' n : Nat} {ok ok' : Nat → Prop} {w W w1 W1 : World} {v u : Value} {xs : List α} {ys : List β} {A : Option Addr} {c : Nat}
end
section
variable {α : Type} {enc : α → Value} {h1 : ∀ x, (enc x).oneCell' = true} {w W : World} {A : Option Addr} {n g : Nat} {xs : List α}
end
end Kd
namespace Kd
section
variable {α : Type} {d : Kd α} {e base g : Nat} {ok : Nat → Prop} {w w1 : World} {v : Value} {xs : List α} {o : Obj}
theorem R_newB (h : d.R e w1 w.heap.size ok v xs) (hb : w.heap[g]? = some o) : d.R e w1 w.heap.size (fun k => ok k ∧ k ≠ g) v xs := R_mono (R_bound h) (fun k hk => ⟨hk.1, by have := blk_lt hb; have := hk.2.1; omega⟩)
theorem freshB (hb : w.heap[g]? = some o) : ∀ k, w.heap.size ≤ k → k ≠ g := fun k hk => by have := blk_lt hb; omega
end
end Kd
section
variable {P : Program} {ops : Array Oper} {rest : List Oper} {o : Oper} {a : Act} {Q : Exit → Act → World → Prop}
theorem box_event {W : World} (hgd : o.guard = none) {N : Tmp} (_hd : o.dst = some N) {cs : Array Value} {t : TypeId}
    (hrun : (execOp a.eval o).run P W = .ok (.value (.pointer (some ⟨W.heap.size, 0, none⟩))) (W.alloc (.cells cs t (0, 0))))
    (h : ∀ g, g = W.heap.size → ∀ w1, w1.heap[g]? = some (.cells cs t (0, 0)) → Below W.heap.size W w1 → wpList P ops Q rest (a.put o.dst (.pointer (some ⟨g, 0, none⟩))) w1) : wpList P ops Q (o :: rest) a W :=
  Kd.event_run hgd hrun (h _ rfl _ (blk_new W _) (below_alloc (Below.refl _ _) _))
end
namespace Kd
section
variable {α : Type} {enc : α → Value} {h1 : ∀ x, (enc x).oneCell' = true} {e base g n cap : Nat} {ok : Nat → Prop} {W : World} {xs : List α}
theorem R_celln (d : α) (h : (scalar enc h1).R e W base ok (.slice (some ⟨g, 0, none⟩) n cap) xs) (i : Int) (h0 : 0 ≤ i) (hi : i < n) : W.cell? ⟨g, i.toNat, none⟩ = some (enc (rdOf d xs i)) ∧ W.frozen? ⟨g, i.toNat, none⟩ = false := by
  obtain ⟨rfl, _⟩ := R_reads' h
  exact R_cell d h i h0 hi
theorem R_putn (h : (scalar enc h1).R e W base ok (.slice (some ⟨g, 0, none⟩) n cap) xs) (i : Int) (x : α) : (scalar enc h1).R e (W.setCell ⟨g, i.toNat, none⟩ (enc x)) base ok (.slice (some ⟨g, 0, none⟩) n cap) (xs.set i.toNat x) := by
  obtain ⟨rfl, _⟩ := R_reads' h
  exact (R_put h i x).1
end
end Kd
section
variable {P : Program} {ops : Array Oper} {rest : List Oper} {o : Oper} {a : Act} {Q : Exit → Act → World → Prop}
theorem store_event {W w1 : World} (hgd : o.guard = none) {t : TypeId} {p : Tmp} {v : Operand} (_ho : o.op = .store t (.tmp p) v) (hN : o.dst = none)
    (hrun : (execOp a.eval o).run P W = .ok .skip w1) (h : ∀ w', w' = w1 → wpList P ops Q rest a w') : wpList P ops Q (o :: rest) a W := by
  refine wpList_plain hgd fun K hK => ?_
  unfold Oper.wp
  rw [hrun]
  show K (a.put o.dst undef) w1
  rw [hN]
  exact hK _ _ (h _ rfl)
end
namespace Kd
section
variable {α : Type} {enc : α → Value} {h1 : ∀ x, (enc x).oneCell' = true} {e base g n cap : Nat} {ok : Nat → Prop} {W : World} {xs : List α}
theorem R_putg (h : (scalar enc h1).R e W base ok (.slice (some ⟨g, 0, none⟩) n cap) xs) (i : Int) (x : α) : (scalar enc h1).R e (W.setCell ⟨g, i.toNat, none⟩ (enc x)) base ok (.slice (some ⟨g, 0, none⟩) n cap) (xs.set i.toNat x) ∧ W.grownBy (W.setCell ⟨g, i.toNat, none⟩ (enc x)) (some g) := by
  obtain ⟨rfl, _⟩ := R_reads' h
  exact R_put h i x
end
end Kd
section
variable {P : Program} {ops : Array Oper} {rest : List Oper} {o : Oper} {a : Act} {Q : Exit → Act → World → Prop} {W : World}
theorem gate_dst {N : Tmp} (_hN : o.dst = some N) (h : wpList P ops Q (o :: rest) a W) : wpList P ops Q (o :: rest) a W := h
theorem gate_store {t : TypeId} {p : Tmp} {v : Operand} (_ho : o.op = .store t (.tmp p) v) (h : wpList P ops Q (o :: rest) a W) : wpList P ops Q (o :: rest) a W := h
end
section
variable {P : Program} {ops : Array Oper} {o : Oper} {a : Act} {Q : Exit → Act → World → Prop} {Kc : Act → World → Prop}
theorem event_step {W w1 : World} {v : Value} (hw : Region.wanted o (yielded ops a.tmps) = true) (hrun : (execOp a.eval o).run P W = .ok (.value v) w1) (h : Kc (a.put o.dst v) w1) : if Region.wanted o (yielded ops a.tmps) = true then Oper.wp P o a W Kc Q else Kc (a.put o.dst undef) W := by
  rw [if_pos hw]
  unfold Oper.wp
  rw [hrun]
  exact h
namespace Kd
variable {α : Type}
theorem R_lit_step (d : Kd α) {w0 W : World} (base e : Nat) (hw : Region.wanted o (yielded ops a.tmps) = true) {N : Tmp} (_hd : o.dst = some N) {xs : List α} {inner : List Value} {ok okp : Nat → Prop}
    (hrun : (execOp a.eval o).run P W = .ok (.value (.slice (some ⟨W.heap.size, 0, none⟩) xs.length xs.length)) (W.alloc (.cells inner.toArray e)))
    (hrep : Reps (d.M W base okp) d.sz xs inner) (hok : ∀ k, okp k → ok k) (hfresh : ok W.heap.size) (HB : Below base w0 W) (hbase : base ≤ W.heap.size) (hm : xs.length ≤ 9223372036854775807)
    (h : ∀ v1 w1, d.R e w1 base ok v1 xs → Below base w0 w1 → W.grownBy w1 none → (∃ b, v1.ownBlock = some b ∧ W.heap.size ≤ b) → Kc (a.put o.dst v1) w1) : if Region.wanted o (yielded ops a.tmps) = true then Oper.wp P o a W Kc Q else Kc (a.put o.dst undef) W := by
  refine event_step hw hrun (h _ _ ⟨fun k hk => ?_, inner, ?_, ?_⟩ (HB.alloc hbase _) (World.grownBy_alloc W _ none) ⟨W.heap.size, by simp [Value.ownBlock], Nat.le_refl _⟩)
  · have : W.heap.size = k := by simpa [Value.ownBlock] using hk
    subst this
    exact hfresh
  · have h2 := World.ownsRow_lit (base := base) (e := e) (size := d.sz) W inner.toArray xs.length hbase (by simpa [maxLen] using hm) (by simpa using hrep.1)
    simpa using h2
  · refine hrep.imp_ (fun p c hp => d.M_mono (fun k hk => ⟨hok k hk.1, fun he => ?_⟩) (M_below (d.M_bound hp) (below_alloc (Below.refl _ _) _)))
    have h3 : k = W.heap.size := by simpa [Value.ownBlock] using he
    have := hk.2.2.1
    omega
theorem R_make_step (d : Kd α) {w0 W : World} (base e : Nat) (hw : Region.wanted o (yielded ops a.tmps) = true) {N : Tmp} (hd : o.dst = some N) (t : TypeId) (x y : Operand) (ho : o.op = .makeSlice t x y) (n : Int) (hx : a.eval x = .int .i64 n) (hy : a.eval y = .int .i64 n)
    (ht : P.underlying t = some (.slice e)) (z : Value) (bytes : Nat) (hinfo : (P.info? e).map (fun i => (i.zero, i.size, i.bytes)) = some (some z, d.sz, bytes)) (hz : z.cells.size = d.sz) (hs0 : 0 < d.sz) (hb0 : 0 < bytes)
    (z0 : α) {ok okp : Nat → Prop} (hzero : d.M W base okp z0 z.cells.toList) (hok : ∀ k, okp k → ok k) (hfresh : ok W.heap.size) (h0 : 0 ≤ n) (hl : n.toNat * bytes ≤ 281474976710656) (HB : Below base w0 W) (hbase : base ≤ W.heap.size)
    (h : ∀ v1 w1, d.R e w1 base ok v1 (List.replicate n.toNat z0) → Below base w0 w1 → W.grownBy w1 none → (∃ b, v1.ownBlock = some b ∧ W.heap.size ≤ b) → Kc (a.put o.dst v1) w1) : if Region.wanted o (yielded ops a.tmps) = true then Oper.wp P o a W Kc Q else Kc (a.put o.dst undef) W := by
  obtain ⟨m, rfl⟩ := Int.eq_ofNat_of_zero_le h0
  simp only [Int.toNat_natCast] at hl h
  obtain ⟨i0, hi, hzz⟩ := Option.map_eq_some_iff.1 hinfo
  simp only [Prod.mk.injEq] at hzz
  obtain ⟨hz0, hz1, hz2⟩ := hzz
  have hm : m ≤ 281474976710656 := Nat.le_trans (Nat.le_mul_of_pos_right _ hb0) hl
  have hr := run_make (P := P) W t e i0 z ht hi hz0 .i64 .i64 (m : Int) (m : Int) (by omega) (by omega)
    (by
      have h3 : ((i0.bytes * m : Nat) : Int) ≤ 281474976710656 := by rw [hz2, Nat.mul_comm]; omega
      rwa [Int.natCast_mul] at h3) (by omega)
  simp only [Int.toNat_natCast] at hr
  rw [hz1] at hr
  refine R_lit_step d base e hw hd (xs := List.replicate m z0) (inner := (madeCells z.cells (m * d.sz)).toList) (okp := okp) (ok := ok) ?_ (reps_made hz hs0 hzero m) hok hfresh HB hbase (by simp; omega) h
  simp [execOp, ho, hx, hy, hr]
end Kd
end
section
variable {P : Program} {tmps : Array Value} {w : World}
end
namespace Kd
section
variable {P : Program} {α : Type}
end
section
variable {P : Program} {ops : Array Oper} {rest : List Oper} {o : Oper} {a : Act} {Q : Exit → Act → World → Prop} {Kc : Act → World → Prop} {α : Type}
end
end Kd
end Go.Proofs.YtijebgceopddmaaDoorW.PrintWords
end
section
namespace Go.Proofs.YtijebgceopddmaaDoorW.PrintLast
section
variable {P : Program} {ops : Array Oper} {Q : Exit → Act → World → Prop} {md : Region.Mode} {S : World → Prop} {ds : List Nat}
def Region.reachB (md : Region.Mode) (ops : Array Oper) (i : Nat) : Nat → Nat → Bool
  | 0, _ => false
  | fuel + 1, d => match ops[d]? with
    | some o => o.after.any fun e => Region.binds md e && (e.on == i || Region.reachB md ops i fuel e.on)
    | none => false
def Region.closedB (md : Region.Mode) (ops : Array Oper) (listed : Array Bool) : Bool :=
  (List.range ops.size).all fun j => !listed.getD j false || match ops[j]? with
    | some o => o.after.all fun e => !Region.binds md e || listed.getD e.on false
    | none => true
def Region.lastB (md : Region.Mode) (ops : Array Oper) (listed : Array Bool) (ds : List Nat) (i : Nat) : Bool :=
  ds.all fun d => listed.getD d true || Region.reachB md ops i ops.size d
def ListedClosed (md : Region.Mode) (ops : Array Oper) (listed : Array Bool) : Prop :=
  ∀ j oj, ops[j]? = some oj → listed.getD j false = true → ∀ e ∈ oj.after, Region.binds md e = true → listed.getD e.on false = true
theorem Region.closedB_spec {listed : Array Bool} (h : Region.closedB md ops listed = true) : ListedClosed md ops listed := by
  intro j oj hj hl e he hb
  have hlt : j < ops.size := (Array.getElem?_eq_some_iff.1 hj).1
  have h1 := List.all_eq_true.1 h j (List.mem_range.2 hlt)
  simp only [hl, hj, Bool.not_true, Bool.false_or] at h1
  have h2 := Array.all_eq_true_iff_forall_mem.1 h1 e he
  simpa [hb] using h2
theorem ListedClosed.set {listed : Array Bool} {i : Nat} (h : ListedClosed md ops listed) (hi : i ∈ Region.ready md ops listed) : ListedClosed md ops (listed.setIfInBounds i true) := by
  obtain ⟨_, oi, hoi, hall⟩ := mem_ready.1 hi
  intro j oj hj hl e he hb
  by_cases hij : i = j
  · subst hij
    have : oj = oi := Option.some.inj (hj.symm.trans hoi)
    subst this
    exact getD_set_true (hall e he hb)
  · rw [getD_set_ne false hij] at hl
    exact getD_set_true (h j oj hj hl e he hb)
theorem Region.reach_listed {listed : Array Bool} {i : Nat} (hc : ListedClosed md ops listed) : ∀ (fuel d : Nat), Region.reachB md ops i fuel d = true → listed.getD d false = true → listed.getD i false = true
  | 0, _, h, _ => by simp [Region.reachB] at h
  | fuel + 1, d, h, hl => by
    unfold Region.reachB at h
    cases ho : ops[d]? with
    | none => rw [ho] at h; simp at h
    | some o =>
      rw [ho] at h
      obtain ⟨e, he, h1⟩ := Array.any_eq_true'.1 h
      simp only [Bool.and_eq_true, Bool.or_eq_true, beq_iff_eq] at h1
      have hle := hc d o ho hl e he h1.1
      rcases h1.2 with h2 | h2
      · rw [← h2]; exact hle
      · exact Region.reach_listed hc fuel e.on h2 hle
theorem Region.reach_not_ready {listed : Array Bool} {i d fuel : Nat} (hc : ListedClosed md ops listed) (hr : Region.reachB md ops i fuel d = true) (hun : listed.getD i true = false) : d ∉ Region.ready md ops listed := by
  intro hd
  obtain ⟨_, o, ho, hall⟩ := mem_ready.1 hd
  have hi : listed.getD i false = true := by
    cases fuel with
    | zero => simp [Region.reachB] at hr
    | succ n =>
      unfold Region.reachB at hr
      rw [ho] at hr
      obtain ⟨e, he, h1⟩ := Array.any_eq_true'.1 hr
      simp only [Bool.and_eq_true, Bool.or_eq_true, beq_iff_eq] at h1
      have hle := hall e he h1.1
      rcases h1.2 with h2 | h2
      · rw [← h2]; exact hle
      · exact Region.reach_listed hc n e.on h2 hle
  rcases Nat.lt_or_ge i listed.size with h' | h'
  · simp [h'] at hun hi
    rw [hun] at hi
    cases hi
  · simp [Array.getElem?_eq_none h'] at hun
def wpAnyLast (P : Program) (md : Region.Mode) (ops : Array Oper) (Q : Exit → Act → World → Prop) (S : World → Prop) (ds : List Nat) : Nat → Array Bool → Act → World → Prop
  | 0, listed, a, w => Region.ready md ops listed = [] ∧ Q .normal a w
  | fuel + 1, listed, a, w =>
    (Region.ready md ops listed = [] → Q .normal a w) ∧
    ∀ i ∈ Region.ready md ops listed, wpOp P ops Q i (fun a' w' => (i ∉ ds → S w → S w') ∧ wpAnyLast P md ops Q S ds fuel (listed.setIfInBounds i true) a' w') a w
theorem wpAny_of_last : ∀ (fuel : Nat) (listed : Array Bool) (a : Act) (w : World), wpAnyLast P md ops Q S ds fuel listed a w → wpAny P md ops Q fuel listed a w
  | 0, _, _, _, h => h
  | fuel + 1, _, _, _, h => ⟨h.1, fun i hi => wpOp_mono (fun a' w' h' => wpAny_of_last fuel _ a' w' h'.2) (h.2 i hi)⟩
theorem wpAnyLast_first {i : Nat} {oi : Oper} {v : Value} (hi : ops[i]? = some oi) (hsel : ∀ (j : Nat) (o : Oper) cs b, ops[j]? = some o → o.op ≠ .select cs b)
    (hQ : ∀ c a w, Q (.panic c) (a.put oi.dst v) w → Q (.panic c) a w) (n : Nat) :
    ∀ (fuel : Nat) (listed : Array Bool) (a : Act) (w : World),
      (∀ j oj, ops[j]? = some oj → j ≠ i → listed.getD j true = false → (∀ e ∈ oj.after, Region.binds md e = true → e.on ≠ i) → oi.apart ops oj = true) →
      ListedClosed md ops listed → (∀ d ∈ ds, listed.getD d true = false → Region.reachB md ops i n d = true) →
      i ∈ Region.ready md ops listed → YieldsIf P ops S oi v a → S w →
      wpAnyLast P md ops Q S ds fuel (listed.setIfInBounds i true) (a.put oi.dst v) w → wpAnyLast P md ops Q S ds (fuel + 1) listed a w := by
  intro fuel
  induction fuel with
  | zero =>
    intro listed a w _ _ _ hr hy hS H
    refine ⟨fun h => (by rw [h] at hr; cases hr), fun j hj => ?_⟩
    by_cases hji : j = i
    · subst hji; exact hy.wpOp hi hS ⟨fun _ h => h, H⟩
    · have := ready_mono hj hji
      rw [H.1] at this
      cases this
  | succ fuel ih =>
    intro listed a w hfree hc hd hr hy hS H
    refine ⟨fun h => (by rw [h] at hr; cases hr), fun j hj => ?_⟩
    by_cases hji : j = i
    · subst hji; exact hy.wpOp hi hS ⟨fun _ h => h, H⟩
    · have h1 := H.2 j (ready_mono hj hji)
      obtain ⟨hjun, oj, hoj, hall⟩ := mem_ready.1 hj
      have hiun := (mem_ready.1 hr).1
      have hnot : ∀ e ∈ oj.after, Region.binds md e = true → e.on ≠ i := fun e he hb heq => by
        have h1 := hall e he hb
        rw [heq] at h1
        rcases Nat.lt_or_ge i listed.size with h' | h'
        · simp [h'] at hiun h1; rw [hiun] at h1; cases h1
        · simp [Array.getElem?_eq_none h'] at h1
      have hjd : j ∉ ds := fun hm => Region.reach_not_ready hc (hd j hm hjun) hiun hj
      have h2 := wpOp_putIf hoj (hfree j oj hoj hji hjun hnot) (fun cs b => hsel i oi cs b hi) (fun cs b => hsel j oj cs b hoj) hQ hy h1
      have hfree' : ∀ k ok, ops[k]? = some ok → k ≠ i → (listed.setIfInBounds j true).getD k true = false →
          (∀ e ∈ ok.after, Region.binds md e = true → e.on ≠ i) → oi.apart ops ok = true := fun k ok hk hki hun hno => by
        refine hfree k ok hk hki ?_ hno
        by_cases hjk : j = k
        · subst hjk; exact hjun
        · rw [getD_set_ne true hjk] at hun; exact hun
      have hd' : ∀ d ∈ ds, (listed.setIfInBounds j true).getD d true = false → Region.reachB md ops i n d = true := fun d hm hun => by
        refine hd d hm ?_
        by_cases hjk : j = d
        · subst hjk; exact hjun
        · rw [getD_set_ne true hjk] at hun; exact hun
      refine wpOp_mono (fun a' w' h3 => ⟨h3.2.1, ih (listed.setIfInBounds j true) a' w' hfree' (hc.set hj) hd' (ready_mono hr (Ne.symm hji)) h3.1 (h3.2.1 hjd hS) ?_⟩) h2
      rw [Array.setIfInBounds_comm _ _ hji]
      exact h3.2.2
theorem wpAnyLast_any {i : Nat} {oi : Oper} {v : Value} (hi : ops[i]? = some oi) (hsel : ∀ (j : Nat) (o : Oper) cs b, ops[j]? = some o → o.op ≠ .select cs b)
    (hQ : ∀ c a w, Q (.panic c) (a.put oi.dst v) w → Q (.panic c) a w) :
    ∀ (fuel : Nat) (listed : Array Bool) (a : Act) (w : World),
      (∀ j oj, ops[j]? = some oj → j ≠ i → listed.getD j true = false → (∀ e ∈ oj.after, Region.binds md e = true → e.on ≠ i) → oi.apart ops oj = true) →
      i ∈ Region.ready md ops listed → Yields P ops oi v a →
      wpAnyLast P md ops Q S ds fuel (listed.setIfInBounds i true) (a.put oi.dst v) w → wpAnyLast P md ops Q S ds (fuel + 1) listed a w := by
  intro fuel
  induction fuel with
  | zero =>
    intro listed a w _ hr hy H
    refine ⟨fun h => (by rw [h] at hr; cases hr), fun j hj => ?_⟩
    by_cases hji : j = i
    · subst hji; exact (hy.yieldsIf (S := fun _ => True)).wpOp hi trivial ⟨fun _ h => h, H⟩
    · have := ready_mono hj hji
      rw [H.1] at this
      cases this
  | succ fuel ih =>
    intro listed a w hfree hr hy H
    refine ⟨fun h => (by rw [h] at hr; cases hr), fun j hj => ?_⟩
    by_cases hji : j = i
    · subst hji; exact (hy.yieldsIf (S := fun _ => True)).wpOp hi trivial ⟨fun _ h => h, H⟩
    · have h1 := H.2 j (ready_mono hj hji)
      obtain ⟨hjun, oj, hoj, hall⟩ := mem_ready.1 hj
      have hiun := (mem_ready.1 hr).1
      have hnot : ∀ e ∈ oj.after, Region.binds md e = true → e.on ≠ i := fun e he hb heq => by
        have h1 := hall e he hb
        rw [heq] at h1
        rcases Nat.lt_or_ge i listed.size with h' | h'
        · simp [h'] at hiun h1; rw [hiun] at h1; cases h1
        · simp [Array.getElem?_eq_none h'] at h1
      have h2 := wpOp_put hoj (hfree j oj hoj hji hjun hnot) (fun cs b => hsel i oi cs b hi) (fun cs b => hsel j oj cs b hoj) hQ hy h1
      have hfree' : ∀ k ok, ops[k]? = some ok → k ≠ i → (listed.setIfInBounds j true).getD k true = false →
          (∀ e ∈ ok.after, Region.binds md e = true → e.on ≠ i) → oi.apart ops ok = true := fun k ok hk hki hun hno => by
        refine hfree k ok hk hki ?_ hno
        by_cases hjk : j = k
        · subst hjk; exact hjun
        · rw [getD_set_ne true hjk] at hun; exact hun
      refine wpOp_mono (fun a' w' h3 => ⟨h3.2.1, ih (listed.setIfInBounds j true) a' w' hfree' (ready_mono hr (Ne.symm hji)) h3.1 ?_⟩) h2
      rw [Array.setIfInBounds_comm _ _ hji]
      exact h3.2.2
theorem wpAnyLast_take {i : Nat} {oi : Oper} {v : Value} {fuel : Nat} {listed : Array Bool} {a : Act} {w : World} (hi : ops[i]? = some oi)
    (hs : Region.noSelect ops = true) (hf : Region.free md ops listed i = true) (hr : (Region.ready md ops listed).contains i = true)
    (hc : Region.closedB md ops listed = true) (hl : Region.lastB md ops listed ds i = true)
    (hQ : ∀ c a w, Q (.panic c) (a.put oi.dst v) w → Q (.panic c) a w) (hy : YieldsIf P ops S oi v a) (hS : S w)
    (h : wpAnyLast P md ops Q S ds fuel (listed.setIfInBounds i true) (a.put oi.dst v) w) : wpAnyLast P md ops Q S ds (fuel + 1) listed a w :=
  wpAnyLast_first hi (Region.noSelect_spec hs) hQ ops.size fuel listed a w (Region.free_spec hi hf) (Region.closedB_spec hc)
    (fun d hm hun => by have := List.all_eq_true.1 hl d hm; rw [hun] at this; simpa using this) (by simpa using hr) hy hS h
theorem wpAnyLast_all {rs : List Nat} {fuel : Nat} {listed : Array Bool} {a : Act} {w : World} (hr : Region.ready md ops listed = rs) (hne : rs ≠ [])
    (h : ∀ i ∈ rs, wpOp P ops Q i (fun a' w' => (i ∉ ds → S w → S w') ∧ wpAnyLast P md ops Q S ds fuel (listed.setIfInBounds i true) a' w') a w) : wpAnyLast P md ops Q S ds (fuel + 1) listed a w :=
  ⟨fun h0 => absurd (hr ▸ h0) hne, hr ▸ h⟩
theorem wpAnyLast_done {listed : Array Bool} {a : Act} {w : World} (hr : Region.ready md ops listed = []) (h : Q .normal a w) :
    ∀ fuel, wpAnyLast P md ops Q S ds fuel listed a w
  | 0 => ⟨hr, h⟩
  | _ + 1 => ⟨fun _ => h, by rw [hr]; simp⟩
theorem wp_region_last {id : Nat} {a : Act} {w : World} (hm : P.follows .mixedOrders = true)
    (h : wpAnyLast P .any ops Q S ds ops.size (Array.replicate ops.size false) a { w with drawn := w.drawn + 1 }) : (Code.region id ops true).wp P Q a w :=
  wp_region_any hm (wpAny_of_last _ _ _ _ h)
end
section
variable {P : Program} {ops : Array Oper} {Q : Exit → Act → World → Prop} {md : Region.Mode} {S : World → Prop} {ds : List Nat}
def AllReadyL (P : Program) (md : Region.Mode) (ops : Array Oper) (Q : Exit → Act → World → Prop) (S : World → Prop) (ds : List Nat) (fuel : Nat) (listed : Array Bool) (a : Act) (w : World) (rs : List Nat) : Prop :=
  ∀ i ∈ rs, wpOp P ops Q i (fun a' w' => (i ∉ ds → S w → S w') ∧ wpAnyLast P md ops Q S ds fuel (listed.setIfInBounds i true) a' w') a w
theorem AllReadyL.nil {fuel : Nat} {listed : Array Bool} {a : Act} {w : World} : AllReadyL P md ops Q S ds fuel listed a w [] := fun _ h => by cases h
theorem AllReadyL.cons {fuel : Nat} {listed : Array Bool} {a : Act} {w : World} {i : Nat} {o : Oper} {rs : List Nat} (ho : ops[i]? = some o) (hd : i ∉ ds)
    (h : ∀ K' : Act → World → Prop, Shut (∀ a w, S w → (S w → wpAnyLast P md ops Q S ds fuel (listed.setIfInBounds i true) a w) → K' a w) → if Region.wanted o (yielded ops a.tmps) = true then Oper.wp P o a w K' Q else K' (a.put o.dst undef) w)
    (hs : AllReadyL P md ops Q S ds fuel listed a w rs) : AllReadyL P md ops Q S ds fuel listed a w (i :: rs) := fun j hj => by
  rcases List.mem_cons.1 hj with rfl | hj
  · exact wpOp_step ho (fun K' hK => h K' (fun a w hS hW => hK a w ⟨fun _ _ => hS, hW hS⟩))
  · exact hs j hj
theorem AllReadyL.cons_last {fuel : Nat} {listed : Array Bool} {a : Act} {w : World} {i : Nat} {o : Oper} {rs : List Nat} (ho : ops[i]? = some o) (hd : i ∈ ds)
    (h : ∀ K' : Act → World → Prop, Shut (∀ a w, wpAnyLast P md ops Q S ds fuel (listed.setIfInBounds i true) a w → K' a w) → if Region.wanted o (yielded ops a.tmps) = true then Oper.wp P o a w K' Q else K' (a.put o.dst undef) w)
    (hs : AllReadyL P md ops Q S ds fuel listed a w rs) : AllReadyL P md ops Q S ds fuel listed a w (i :: rs) := fun j hj => by
  rcases List.mem_cons.1 hj with rfl | hj
  · exact wpOp_step ho (fun K' hK => h K' (fun a w hW => hK a w ⟨fun hn => absurd hd hn, hW⟩))
  · exact hs j hj
theorem wpAnyLast_ready {rs : List Nat} {fuel : Nat} {listed : Array Bool} {a : Act} {w : World} (hr : Region.ready md ops listed = rs) (hne : rs ≠ [])
    (h : AllReadyL P md ops Q S ds fuel listed a w rs) : wpAnyLast P md ops Q S ds (fuel + 1) listed a w := wpAnyLast_all hr hne h
theorem start_ {id n : Nat} {a : Act} {w : World} (l : Array Bool) (hm : P.follows .mixedOrders = true) (hn : ops.size = n) (hl : Array.replicate n false = l) (hS : S w.drew)
    (h : S w.drew → wpAnyLast P .any ops Q S ds n l a w.drew) : (Code.region id ops true).wp P Q a w := by
  subst hn
  subst hl
  exact wp_region_last hm (h hS)
def takeB (md : Region.Mode) (ops : Array Oper) (ds : List Nat) (l l' : Array Bool) (i : Nat) : Bool :=
  Region.noSelect ops && Region.free md ops l i && (Region.ready md ops l).contains i && Region.closedB md ops l && Region.lastB md ops l ds i && (l.setIfInBounds i true == l')
theorem take_ {i : Nat} {N : Option Tmp} {oi : Oper} {v : Value} {fuel : Nat} {l : Array Bool} {a : Act} {w : World} (l' : Array Bool) (hi : ops[i]? = some oi) (hN : oi.dst = N) (hc : takeB md ops ds l l' i = true)
    (hQ : ∀ c a w, Q (.panic c) (a.put oi.dst v) w → Q (.panic c) a w) (hy : YieldsIf P ops S oi v a) (hS : S w) {a' : Act} (ha : a.put N v = a')
    (h : wpAnyLast P md ops Q S ds fuel l' a' w) : wpAnyLast P md ops Q S ds (fuel + 1) l a w := by
  subst ha
  subst hN
  simp only [takeB, Bool.and_eq_true, beq_iff_eq] at hc
  obtain ⟨⟨⟨⟨⟨h1, h2⟩, h3⟩, h4⟩, h5⟩, h6⟩ := hc
  subst h6
  exact wpAnyLast_take hi h1 h2 h3 h4 h5 hQ hy hS h
def anyB (md : Region.Mode) (ops : Array Oper) (l l' : Array Bool) (i : Nat) : Bool :=
  Region.noSelect ops && Region.free md ops l i && (Region.ready md ops l).contains i && (l.setIfInBounds i true == l')
theorem pure_ {i : Nat} {N : Option Tmp} {oi : Oper} {v : Value} {fuel : Nat} {l : Array Bool} {a : Act} {w : World} (l' : Array Bool) (hi : ops[i]? = some oi) (hN : oi.dst = N) (hc : anyB md ops l l' i = true)
    (hQ : ∀ c a w, Q (.panic c) (a.put oi.dst v) w → Q (.panic c) a w) (hy : Yields P ops oi v a) {a' : Act} (ha : a.put N v = a')
    (h : wpAnyLast P md ops Q S ds fuel l' a' w) : wpAnyLast P md ops Q S ds (fuel + 1) l a w := by
  subst ha
  subst hN
  simp only [anyB, Bool.and_eq_true, beq_iff_eq] at hc
  obtain ⟨⟨⟨h1, h2⟩, h3⟩, h6⟩ := hc
  subst h6
  exact wpAnyLast_any hi (Region.noSelect_spec h1) hQ fuel l a w (Region.free_spec hi h2) (by simpa using h3) hy h
def readyB (md : Region.Mode) (ops : Array Oper) (l l' : Array Bool) (i : Nat) : Bool := (Region.ready md ops l == [i]) && (l.setIfInBounds i true == l')
theorem one_ {i : Nat} {N : Option Tmp} {oi : Oper} {fuel : Nat} {l : Array Bool} {a : Act} {w : World} (l' : Array Bool) (hi : ops[i]? = some oi) (hN : oi.dst = N) (hc : readyB md ops l l' i = true) (hd : i ∉ ds)
    (h : ∀ K : Act → World → Prop, Shut (∀ a' w', S w' → (S w' → wpAnyLast P md ops Q S ds fuel l' a' w') → K a' w') → if Region.wanted oi (yielded ops a.tmps) = true then Oper.wp P oi a w K Q else K (a.put N undef) w) :
    wpAnyLast P md ops Q S ds (fuel + 1) l a w := by
  subst hN
  simp only [readyB, Bool.and_eq_true, beq_iff_eq] at hc
  obtain ⟨h1, h2⟩ := hc
  subst h2
  exact wpAnyLast_ready h1 (by simp) (AllReadyL.cons hi hd (fun K hK => h K hK) AllReadyL.nil)
theorem last_ {i : Nat} {N : Option Tmp} {oi : Oper} {fuel : Nat} {l : Array Bool} {a : Act} {w : World} (l' : Array Bool) (hi : ops[i]? = some oi) (hN : oi.dst = N) (hc : readyB md ops l l' i = true) (hd : i ∈ ds)
    (h : ∀ K : Act → World → Prop, Shut (∀ a' w', wpAnyLast P md ops Q S ds fuel l' a' w' → K a' w') → if Region.wanted oi (yielded ops a.tmps) = true then Oper.wp P oi a w K Q else K (a.put N undef) w) :
    wpAnyLast P md ops Q S ds (fuel + 1) l a w := by
  subst hN
  simp only [readyB, Bool.and_eq_true, beq_iff_eq] at hc
  obtain ⟨h1, h2⟩ := hc
  subst h2
  exact wpAnyLast_ready h1 (by simp) (AllReadyL.cons_last hi hd (fun K hK => h K hK) AllReadyL.nil)
theorem done_ {l : Array Bool} {a : Act} {w : World} {n : Nat} (hr : (Region.ready md ops l == []) = true) (h : Q .normal a w) : wpAnyLast P md ops Q S ds n l a w := wpAnyLast_done (by simpa using hr) h n
theorem two_ {i j : Nat} {Ni Nj : Option Tmp} {oi oj : Oper} {fuel : Nat} {l : Array Bool} {a : Act} {w : World} (li lj : Array Bool) (hi : ops[i]? = some oi) (hj : ops[j]? = some oj) (hNi : oi.dst = Ni) (hNj : oj.dst = Nj)
    (hc : (Region.ready md ops l == [i, j] && l.setIfInBounds i true == li && l.setIfInBounds j true == lj) = true) (hdi : i ∉ ds) (hdj : j ∉ ds)
    (h1 : ∀ K : Act → World → Prop, Shut (∀ a' w', S w' → (S w' → wpAnyLast P md ops Q S ds fuel li a' w') → K a' w') → if Region.wanted oi (yielded ops a.tmps) = true then Oper.wp P oi a w K Q else K (a.put Ni undef) w)
    (h2 : ∀ K : Act → World → Prop, Shut (∀ a' w', S w' → (S w' → wpAnyLast P md ops Q S ds fuel lj a' w') → K a' w') → if Region.wanted oj (yielded ops a.tmps) = true then Oper.wp P oj a w K Q else K (a.put Nj undef) w) :
    wpAnyLast P md ops Q S ds (fuel + 1) l a w := by
  subst hNi
  subst hNj
  simp only [Bool.and_eq_true, beq_iff_eq] at hc
  obtain ⟨⟨h3, h4⟩, h5⟩ := hc
  subst h4
  subst h5
  exact wpAnyLast_ready h3 (by simp) (AllReadyL.cons hi hdi (fun K hK => h1 K hK) (AllReadyL.cons hj hdj (fun K hK => h2 K hK) AllReadyL.nil))
def putAll : Act → List (Tmp × Value) → Act
  | a, [] => a
  | a, (n, v) :: r => putAll (a.put (some n) v) r
theorem join_ {σ : Type} {fuel : Nat} {l : Array Bool} {a : Act} {w : World} (fuel' : Nat) (l' : Array Bool) (ns : σ → List (Tmp × Value)) (F : σ → World → Prop)
    (hcont : ∀ s w', F s w' → wpAnyLast P md ops Q S ds fuel' l' (putAll a (ns s)) w')
    (h : (∀ s w', F s w' → wpAnyLast P md ops Q S ds fuel' l' (putAll a (ns s)) w') → wpAnyLast P md ops Q S ds fuel l a w) : wpAnyLast P md ops Q S ds fuel l a w := h hcont
theorem norm_ {fuel : Nat} {l : Array Bool} {a a' : Act} {w : World} (ha : a = a') (h : wpAnyLast P md ops Q S ds fuel l a' w) : wpAnyLast P md ops Q S ds fuel l a w := by
  subst ha
  exact h
theorem call_ {oi : Oper} {N : Option Tmp} {a : Act} {w : World} {K : Act → World → Prop} (f : FuncId) (args : Array Value) (hw : Region.wanted oi (yielded ops a.tmps) = true) (hN : oi.dst = N) (hrun : (execOp a.eval oi).run P w = .ok (.enter f args) w)
    (h : Calls P f args w fun e w' => ∃ v, e = .returned v ∧ K (a.put N v) w') : if Region.wanted oi (yielded ops a.tmps) = true then Oper.wp P oi a w K Q else K (a.put N undef) w := by
  rw [if_pos hw]
  subst hN
  unfold Oper.wp
  rw [hrun, Oper.upon_enter]
  refine h.mono fun e w'' hh => ?_
  obtain ⟨v, rfl, hk⟩ := hh
  exact hk
theorem enters_ {f : FuncId} {fn : Func} (hf : P.funcs[f]? = some fn) (hname : (fn.name == "runtime.NumGoroutine") = false) (hb : fn.body.isSome = true) (args : Array Value) (w : World) : (callFunc f args).run P w = .ok (.enter f args) w := by
  have h1 : fn.name ≠ "runtime.NumGoroutine" := by simpa using hname
  obtain ⟨c, hc⟩ := Option.isSome_iff_exists.1 hb
  simp [callFunc, hf, h1, hc]
theorem goes_ {oi : Oper} {N : Option Tmp} {a : Act} {w : World} {K : Act → World → Prop} {f : FuncId} {fn : Func} {as_ : Array Operand} {ts : Array TypeId} (hf : P.funcs[f]? = some fn) (hname : (fn.name == "runtime.NumGoroutine") = false) (hb : fn.body.isSome = true) (args : Array Value)
    (hw : Region.wanted oi (yielded ops a.tmps) = true) (hN : oi.dst = N) (hop : oi.op = .call { callee := .value (.func f), args := as_, argTypes := ts }) (hargs : as_.map a.eval = args)
    (h : Calls P f args w fun e w' => ∃ v, e = .returned v ∧ K (a.put N v) w') : if Region.wanted oi (yielded ops a.tmps) = true then Oper.wp P oi a w K Q else K (a.put N undef) w := by
  refine call_ f args hw hN ?_ h
  have he := enters_ hf hname hb args w
  unfold execOp
  simp [hop, resolve, Deferred.ofValue, invoke, Act.eval, hargs, he]
theorem goesL_ {rest : List Oper} {oi : Oper} {a : Act} {w : World} (N : Option Tmp) (hd : oi.dst = N) (hg : oi.guard = none) {f : FuncId} {fn : Func} {as_ : Array Operand} {ts : Array TypeId} (hf : P.funcs[f]? = some fn) (hname : (fn.name == "runtime.NumGoroutine") = false) (hb : fn.body.isSome = true) (args : Array Value)
    (hop : oi.op = .call { callee := .value (.func f), args := as_, argTypes := ts }) (hargs : as_.map a.eval = args)
    (h : Calls P f args w fun e w' => ∃ v, e = .returned v ∧ wpList P ops Q rest (a.put N v) w') : wpList P ops Q (oi :: rest) a w := by
  refine wpList_plain hg fun K hK => ?_
  have he := enters_ hf hname hb args w
  have hrun : (execOp a.eval oi).run P w = .ok (.enter f args) w := by
    unfold execOp
    simp [hop, resolve, Deferred.ofValue, invoke, Act.eval, hargs, he]
  unfold Oper.wp
  rw [hrun, Oper.upon_enter]
  refine h.mono fun e w'' hh => ?_
  obtain ⟨v, rfl, hk⟩ := hh
  subst hd
  exact hK _ _ hk
theorem value_ {oi : Oper} {N : Option Tmp} {a : Act} {w w1 : World} {v : Value} {K : Act → World → Prop} (hw : Region.wanted oi (yielded ops a.tmps) = true) (hN : oi.dst = N) (hrun : (execOp a.eval oi).run P w = .ok (.value v) w1)
    (h : K (a.put N v) w1) : if Region.wanted oi (yielded ops a.tmps) = true then Oper.wp P oi a w K Q else K (a.put N undef) w := by
  rw [if_pos hw]
  subst hN
  unfold Oper.wp
  rw [hrun]
  exact h
theorem skip_ {oi : Oper} {a : Act} {w w1 : World} {K : Act → World → Prop} (hw : Region.wanted oi (yielded ops a.tmps) = true) (hN : oi.dst = none) (hrun : (execOp a.eval oi).run P w = .ok .skip w1)
    (h : K a w1) : if Region.wanted oi (yielded ops a.tmps) = true then Oper.wp P oi a w K Q else K (a.put none undef) w := by
  rw [if_pos hw]
  unfold Oper.wp
  rw [hrun]
  show K (a.put oi.dst undef) w1
  rw [hN]
  exact h
theorem i64_w (n : Int) : IntKind.i64.wrap n = Go.RowKit.wrap64 n := by unfold Go.RowKit.wrap64; exact IntKind.wrap_i64 n
theorem i32_w (n : Int) : IntKind.i32.wrap n = Go.RowKit.wrap32 n := by unfold Go.RowKit.wrap32; exact IntKind.wrap_i32 n
end
end Go.Proofs.YtijebgceopddmaaDoorW.PrintLast
end
section
namespace Go.Proofs.YtijebgceopddmaaDoorW.PrintWords
open Go.RowKit
namespace Kd
section
variable {α : Type} {d : Kd α} {e base g o n cap : Nat} {ok okp : Nat → Prop} {w W : World} {v : Value} {xs : List α}
end
section
variable {α : Type} {enc : α → Value} {h1 : ∀ x, (enc x).oneCell' = true} {e base g o n cap : Nat} {ok : Nat → Prop} {W : World} {xs : List α}
end
end Kd
end Go.Proofs.YtijebgceopddmaaDoorW.PrintWords
end
