/- Parts of the proof, laid together by a program of this session: MMat3, Fn1, Fn2, Fn3, Fn4, AxArg, AxLaw, LawB, Law8. -/
import Derived.Test.YtijebgceopddmaaDoorKr4
import Derived.Test.YtijebgceopddmaaDoorKr2
import Derived.Test.YtijebgceopddmaaDoorKr1
import Derived.Test.YtijebgceopddmaaDoorKr3
import Derived.Test.YtijebgceopddmaaDoorKr0
import Derived.DataReads
import GoSem.ClaimChange
import Derived.Test.YtijebgceopddmaaDoorRows
import Derived.ProofKit
import Derived.LaidMore
import Derived.OpenShut
import Derived.Stop.Joined
set_option linter.unusedVariables false
set_option linter.unusedSimpArgs false
section
set_option linter.unusedVariables false
namespace QMat
open QLin QGf
def rankG (m : Grid) : Nat := (reduce m).2.length
theorem rank_of {m : Grid} {h w : Nat} (hm : Shape m h w) (hb : Bytes m) : HasRank w h (fn m) (rankG m) := by
  rcases Nat.eq_zero_or_pos h with h0 | h0
  · subst h0
    obtain rfl : m = [] := List.eq_nil_of_length_eq_zero hm.rows
    exact ⟨id, fn [], ⟨fun j hj => absurd hj (by simp [rankG, reduce_nil]), fun i j _ hj => absurd hj (by simp [rankG, reduce_nil]), fun i j hi => absurd hi (by simp [rankG, reduce_nil]), fun j c hj => absurd hj (by simp [rankG, reduce_nil]), fun j c hj => absurd hj (by simp [rankG, reduce_nil])⟩, fun v => Iff.rfl⟩
  · exact reduce_rank hm hb (shape_cols hm h0)
theorem wide_of {m : Grid} {h w : Nat} (hm : Shape m h w) : ∀ j d, j < h → w ≤ d → fn m j d = Fl.zero := fun j d _ hd => fn_wide hm j d (.inr hd)
theorem rank_le {m : Grid} {h w : Nat} (hm : Shape m h w) (hb : Bytes m) : rankG m ≤ h ∧ rankG m ≤ w := ⟨(rank_of hm hb).le_rows (wide_of hm), (rank_of hm hb).le_cols⟩
def exprG (rows : Grid) (row : List Int) : Option (List Int) := (solveG (build row.length rows.length fun i k => el rows k i) row rows.length).map (·.1)
theorem fn_turn {rows : Grid} {k n : Nat} (hs : Shape rows k n) : fn (build n k fun i j => el rows j i) = tr (fn rows) := by
  funext i j
  show fb (el _ i j) = fb (el rows j i)
  rw [el_build_any]
  split
  · rfl
  · rw [el_out hs j i (by omega)]
theorem bytes_turn {rows : Grid} (hb : Bytes rows) (n k : Nat) : Bytes (build n k fun i j => el rows j i) := bytes_build fun i j _ _ => hb j i
theorem solves_span {rows : Grid} {k n : Nat} (hs : Shape rows k n) {v x : Vec B} (hv : ∀ c, n ≤ c → v c = Fl.zero) : Solves n k (tr (fn rows)) v x ↔ v = comb k x (fn rows) := by
  have key : ∀ c, dot k (tr (fn rows) c) x = comb k x (fn rows) c := fun c => sum_congr fun t _ => Fl.mul_comm _ _
  constructor
  · intro h
    funext c
    by_cases hc : c < n
    · rw [← key c, h c hc]
    · rw [hv c (by omega)]
      exact (sum_zeros fun t _ => by rw [fn_wide hs t c (.inr (by omega)), mul_zero]).symm
  · intro h c _
    rw [key c, ← h]
section
variable {rows : Grid} {row : List Int} {k n : Nat}
theorem express_none (hs : Shape rows k n) (hb : Bytes rows) (hr : ByteL row) (hl : row.length = n) (he : exprG rows row = none) : ¬ InSpan k (fn rows) (vec row) := by
  have hv : ∀ c, n ≤ c → vec row c = Fl.zero := fun c hc => vec_out (by omega)
  have s := sys_of (m := build n k fun i j => el rows j i) (b := row) k (bytes_turn hb n k) hr
  have hlen : (build n k fun i j => el rows j i).length = n := by simp [build]
  rw [hlen, fn_turn hs] at s
  unfold exprG at he
  rw [hs.rows, hl] at he
  unfold solveG at he
  dsimp only at he
  generalize reduce (augG (build n k fun i j => el rows j i) row k) = r at *
  split at he
  · rename_i hm
    rintro ⟨x, hx⟩
    obtain ⟨j, hj, e⟩ := mem_piv.1 hm
    exact no_solution s.rref s.span hj e ((solves_span hs hv).2 hx)
  · cases he
theorem express_some (hs : Shape rows k n) (hb : Bytes rows) (hr : ByteL row) (hl : row.length = n) {x : List Int} (he : exprG rows row = some x) :
    x.length = k ∧ ByteL x ∧ vec row = comb k (vec x) (fn rows) ∧ ∀ j, j < k → x.getD j 0 ≠ 0 → ∀ a : Vec B, fn rows j ≠ comb j a (fn rows) := by
  have hv : ∀ c, n ≤ c → vec row c = Fl.zero := fun c hc => vec_out (by omega)
  have s := sys_of (m := build n k fun i j => el rows j i) (b := row) k (bytes_turn hb n k) hr
  have hlen : (build n k fun i j => el rows j i).length = n := by simp [build]
  rw [hlen, fn_turn hs] at s
  unfold exprG at he
  rw [hs.rows, hl] at he
  unfold solveG at he
  dsimp only at he
  generalize reduce (augG (build n k fun i j => el rows j i) row k) = r at *
  split at he
  · cases he
  · rename_i hm
    simp only [Option.map_some, Option.some.injEq] at he
    subst he
    refine ⟨by simp [solX], s.bytes_X, (solves_span hs hv).1 (sol_solves s.rref s.span (fun j hj => s.lt hm hj) (s.isSol hm)), fun j hj hne a ha => ?_⟩
    have hjp : j ∈ r.2 := by
      apply Classical.byContradiction
      intro hno
      apply hne
      unfold solX
      rw [getD_map_range _ hj, if_neg hno]
    have hat := at_piv hjp
    refine piv_new s.rref s.span (at_lt hjp) (by rw [hat]; exact hj) a fun i _ => ?_
    rw [hat]
    exact congrFun ha i
end
section
variable {m : Grid} {b y : List Int} {h n : Nat}
end
section
variable {m : Grid} {n : Nat}
end
end QMat
end
section
set_option linter.unusedVariables false
set_option linter.unusedSimpArgs false
namespace Go.Proofs.YtijebgceopddmaaDoor.Fn
open Go.RowKit Go.Proofs.YtijebgceopddmaaDoorW.PrintWords Go.Proofs.YtijebgceopddmaaDoorW.PrintMore Go.Proofs.YtijebgceopddmaaDoor.Gf Go.Proofs.YtijebgceopddmaaDoor.Pa Go.Proofs.YtijebgceopddmaaDoor.Pr QMat QGf
theorem w64 {n : Int} (h : 0 ≤ n ∧ n ≤ 9223372036854775807) : wrap64 n = n := by unfold wrap64; omega
theorem wS (i : Nat) (h : i < 4611686018427387904) : wrap64 ((i : Int) + 1) = ((i + 1 : Nat) : Int) := by unfold wrap64; omega
theorem rdL {m : List (List Int)} (i : Nat) : rd_L1 m (i : Int) = m.getD i [] := by unfold rd_L1; rw [Int.toNat_natCast]
theorem rdI {r : List Int} (i : Nat) : rd r (i : Int) = r.getD i 0 := by unfold rd; rw [Int.toNat_natCast]
theorem drop_at {α : Type} {m : List α} {i : Nat} (z : α) (h : i < m.length) : m.drop i = m.getD i z :: m.drop (i + 1) := by
  rw [List.drop_eq_getElem_cons h, List.getD_eq_getElem?_getD, List.getElem?_eq_getElem h]; rfl
def anyLong (m : Grid) : Bool := m.any fun r => decide (48 < r.length)
def anyOdd (m : Grid) (c : Nat) : Bool := m.any fun r => decide (r.length ≠ c)
def chk (m : Grid) : Int := if 48 < m.length then 2 else if anyLong m = true then 2 else if anyOdd m (cols m) = true then 1 else 0
def Valid (m : Grid) : Prop := m.length ≤ 48 ∧ (∀ r, r ∈ m → r.length ≤ 48) ∧ ∀ r, r ∈ m → r.length = cols m
theorem chk_zero {m : Grid} : chk m = 0 ↔ Valid m := by
  unfold chk Valid
  by_cases h1 : 48 < m.length
  · simp only [h1, if_true]; exact ⟨fun h => by omega, fun h => by omega⟩
  · simp only [h1, if_false]
    by_cases h2 : anyLong m = true
    · simp only [h2, if_true]
      simp only [anyLong, List.any_eq_true, decide_eq_true_eq] at h2
      obtain ⟨r, hr, hl⟩ := h2
      exact ⟨fun h => by omega, fun h => absurd (h.2.1 r hr) (by omega)⟩
    · simp only [h2, if_false]
      by_cases h3 : anyOdd m (cols m) = true
      · simp only [h3, if_true]
        simp only [anyOdd, List.any_eq_true, decide_eq_true_eq] at h3
        obtain ⟨r, hr, hl⟩ := h3
        exact ⟨fun h => by omega, fun h => absurd (h.2.2 r hr) hl⟩
      · simp only [h3, if_false]
        simp only [anyLong, anyOdd, List.any_eq_true, decide_eq_true_eq, not_exists, not_and] at h2 h3
        exact ⟨fun _ => ⟨by omega, fun r hr => Nat.le_of_not_lt (h2 r hr), fun r hr => Classical.byContradiction fun h => h3 r hr h⟩, fun _ => rfl⟩
theorem Valid.shape {m : Grid} (h : Valid m) : Shape m m.length (cols m) := by
  refine shape_self fun i hi => ?_
  rw [List.getD_eq_getElem?_getD, List.getElem?_eq_getElem hi]
  exact h.2.2 _ (List.getElem_mem hi)
theorem Valid.cols_le {m : Grid} (h : Valid m) : cols m ≤ 48 := by
  unfold cols
  cases m with
  | nil => simp
  | cons r m => exact h.2.1 r (by simp)
def fits (m : Grid) (n : Nat) : Bool := decide (m.length ≤ n) && m.all fun r => decide (r.length ≤ n)
theorem Few_l0 {m : Grid} {n : Nat} (hm : m.length < 4611686018427387904) : ∀ (d k i : Nat), i + d = m.length → d < k → quietusref05_Few.l0 k m n i = some ((m.drop i).all fun r => decide (r.length ≤ n))
  | d, 0, i, hd, hk => by omega
  | d, k + 1, i, hd, hk => by
    simp only [quietusref05_Few.l0]
    by_cases hi : i < m.length
    · rw [if_pos (by omega), if_pos (by omega), rdL, drop_at [] hi, List.all_cons]
      by_cases hg : (m.getD i []).length ≤ n
      · rw [if_neg (by omega), wS i (by omega), Few_l0 hm (d - 1) k (i + 1) (by omega) (by omega), decide_eq_true hg, Bool.true_and]
      · rw [if_pos (by omega), decide_eq_false hg, Bool.false_and]
    · rw [if_neg (by omega), List.drop_eq_nil_of_le (by omega)]
      rfl
theorem Few_f {m : Grid} {n : Nat} (hn : n < 1000) {k : Nat} (hk : 1002 ≤ k) : quietusref05_Few.f k m n = some (fits m n) := by
  unfold quietusref05_Few.f fits
  by_cases h : m.length ≤ n
  · rw [if_neg (by omega)]
    have := Few_l0 (m := m) (n := n) (by omega) m.length k 0 (by omega) (by omega)
    simp only [Int.natCast_zero] at this
    rw [this, decide_eq_true h, Bool.true_and]; rfl
  · rw [if_pos (by omega), decide_eq_false h, Bool.false_and]
theorem Check_l0 {m : Grid} (hm : m.length ≤ 48) : ∀ (d k i : Nat) (e : Int), i + d = m.length → d < k → matrix_Check.l0 k m e m m.length i = some (if anyLong (m.drop i) = true then 2 else if anyOdd (m.drop i) (cols m) = true then 1 else e)
  | d, 0, i, e, hd, hk => by omega
  | d, k + 1, i, e, hd, hk => by
    simp only [matrix_Check.l0]
    by_cases hi : i < m.length
    · have hc : ((rd_L1 m 0).length : Int) = cols m := by rw [show (0 : Int) = ((0 : Nat) : Int) from rfl, rdL]; rfl
      rw [if_pos (by omega), if_pos (by omega), if_pos (by omega), rdL, drop_at [] hi, anyLong, anyOdd, List.any_cons, List.any_cons]
      by_cases hg : 48 < (m.getD i []).length
      · rw [if_pos (by omega), decide_eq_true hg, Bool.true_or, if_pos rfl]
      · rw [if_neg (by omega), if_pos (by omega), hc, wS i (by omega), decide_eq_false hg, Bool.false_or]
        by_cases he : (m.getD i []).length = cols m
        · rw [if_pos (by omega), Check_l0 hm (d - 1) k (i + 1) e (by omega) (by omega), decide_eq_false (by simpa using he), Bool.false_or]
          rfl
        · rw [if_neg (by omega), Check_l0 hm (d - 1) k (i + 1) 1 (by omega) (by omega), ite_self, decide_eq_true (by simpa using he), Bool.true_or, if_pos rfl]
          rfl
    · rw [if_neg (by omega), List.drop_eq_nil_of_le (by omega)]
      rfl
theorem Check_f (m : Grid) {k : Nat} (hk : 100 ≤ k) : matrix_Check.f k m = some (chk m) := by
  unfold matrix_Check.f chk
  by_cases h : (m.length : Int) > 48
  · rw [if_pos h, if_pos (by omega)]
  · rw [if_neg h, if_neg (by omega)]
    have := Check_l0 (m := m) (by omega) m.length k 0 0 (by omega) (by omega)
    simp only [Int.natCast_zero] at this
    rw [this]
    rfl
theorem Check2_l1 {m : Grid} (hm : m.length ≤ 48) : ∀ (d k i : Nat), i + d = m.length → d < k → quietusref05_Check.l1 k m i = some (if anyOdd (m.drop i) (cols m) = true then 1 else 0)
  | d, 0, i, hd, hk => by omega
  | d, k + 1, i, hd, hk => by
    simp only [quietusref05_Check.l1]
    by_cases hi : i < m.length
    · have hc : ((rd_L1 m 0).length : Int) = cols m := by rw [show (0 : Int) = ((0 : Nat) : Int) from rfl, rdL]; rfl
      rw [if_pos (by omega), if_pos (by omega), if_pos (by omega), rdL, hc, drop_at [] hi, anyOdd, List.any_cons]
      by_cases he : (m.getD i []).length = cols m
      · rw [if_pos (by omega), wS i (by omega), Check2_l1 hm (d - 1) k (i + 1) (by omega) (by omega), decide_eq_false (by simpa using he), Bool.false_or]
        rfl
      · rw [if_neg (by omega), decide_eq_true (by simpa using he), Bool.true_or, if_pos rfl]
    · rw [if_neg (by omega), List.drop_eq_nil_of_le (by omega)]
      rfl
theorem Check2_l0 {m : Grid} (hm : m.length ≤ 48) : ∀ (d k i : Nat), i + d = m.length → d + m.length + 1 < k → quietusref05_Check.l0 k m i = some (if anyLong (m.drop i) = true then 2 else if anyOdd m (cols m) = true then 1 else 0)
  | d, 0, i, hd, hk => by omega
  | d, k + 1, i, hd, hk => by
    simp only [quietusref05_Check.l0]
    by_cases hi : i < m.length
    · rw [if_pos (by omega), if_pos (by omega), rdL, drop_at [] hi, anyLong, List.any_cons]
      by_cases hg : 48 < (m.getD i []).length
      · rw [if_pos (by omega), decide_eq_true hg, Bool.true_or, if_pos rfl]
      · rw [if_neg (by omega), wS i (by omega), Check2_l0 hm (d - 1) k (i + 1) (by omega) (by omega), decide_eq_false hg, Bool.false_or]
        rfl
    · rw [if_neg (by omega), List.drop_eq_nil_of_le (by omega)]
      have := Check2_l1 hm m.length k 0 (by omega) (by omega)
      simp only [Int.natCast_zero] at this
      rw [this]
      rfl
theorem Check2_f (m : Grid) {k : Nat} (hk : 200 ≤ k) : quietusref05_Check.f k m = some (chk m) := by
  unfold quietusref05_Check.f chk
  by_cases h : (m.length : Int) > 48
  · rw [if_pos h, if_pos (by omega)]
  · rw [if_neg h, if_neg (by omega)]
    have := Check2_l0 (m := m) (by omega) m.length k 0 (by omega) (by omega)
    simp only [Int.natCast_zero] at this
    rw [this]
    rfl
theorem columns_f (m : Grid) : matrix_columns.f m = some (cols m : Int) := by
  unfold matrix_columns.f cols
  cases m with
  | nil => simp
  | cons r m => rw [if_neg (by simp only [List.length_cons]; omega), if_pos (by simp only [List.length_cons]; omega), show (0 : Int) = ((0 : Nat) : Int) from rfl, rdL]
theorem Columns_f (m : Grid) : quietusref05_Columns.f m = some (cols m : Int) := by
  unfold quietusref05_Columns.f cols
  cases m with
  | nil => simp
  | cons r m => rw [if_neg (by simp only [List.length_cons]; omega), if_pos (by simp only [List.length_cons]; omega), show (0 : Int) = ((0 : Nat) : Int) from rfl, rdL]
theorem SameRow_l0 {a b : List Int} (hl : a.length = b.length) (hm : a.length < 4611686018427387904) : ∀ (d k i : Nat), i + d = a.length → d < k → quietusref05_SameRow.l0 k a b i = some (decide (a.drop i = b.drop i))
  | d, 0, i, hd, hk => by omega
  | d, k + 1, i, hd, hk => by
    simp only [quietusref05_SameRow.l0]
    by_cases hi : i < a.length
    · rw [if_pos (by omega), if_pos (by omega), if_pos (by omega), rdI, rdI, drop_at (m := a) 0 hi, drop_at (m := b) 0 (hl ▸ hi)]
      by_cases he : a.getD i 0 = b.getD i 0
      · rw [if_pos he, wS i (by omega), SameRow_l0 hl hm (d - 1) k (i + 1) (by omega) (by omega)]
        simp only [he, List.cons.injEq, true_and]
      · rw [if_neg he]
        simp only [List.cons.injEq, he, false_and, decide_false]
    · rw [if_neg (by omega), List.drop_eq_nil_of_le (by omega), List.drop_eq_nil_of_le (by omega)]
      simp
theorem SameRow_f {a b : List Int} {K : Nat} (hm : a.length < K) (hK : K < 4611686018427387904) {k : Nat} (hk : K ≤ k) : quietusref05_SameRow.f k a b = some (decide (a = b)) := by
  unfold quietusref05_SameRow.f
  by_cases h : (a.length : Int) = b.length
  · rw [if_pos h]
    have := SameRow_l0 (a := a) (b := b) (by omega) (by omega) a.length k 0 (by omega) (by omega)
    simp only [Int.natCast_zero] at this
    rw [this, List.drop_zero, List.drop_zero]
  · rw [if_neg h]
    have : a ≠ b := fun e => h (by rw [e])
    simp [this]
end Go.Proofs.YtijebgceopddmaaDoor.Fn
end
section
set_option linter.unusedVariables false
set_option linter.unusedSimpArgs false
namespace Go.Proofs.YtijebgceopddmaaDoor.Fn
open Go.RowKit Go.Proofs.YtijebgceopddmaaDoorW.PrintWords Go.Proofs.YtijebgceopddmaaDoorW.PrintMore Go.Proofs.YtijebgceopddmaaDoor.Gf Go.Proofs.YtijebgceopddmaaDoor.Pa Go.Proofs.YtijebgceopddmaaDoor.Pr QMat QGf
theorem rowG_range {f : Int → Option Int} {g : Nat → Int} : ∀ (n k : Nat), (∀ q, k ≤ q → q < k + n → f (q : Int) = some (g q)) → Grid.rowG f k n = some ((List.range n).map fun j => g (k + j))
  | 0, k, h => rfl
  | n + 1, k, h => by
    simp only [Grid.rowG]
    rw [h k (Nat.le_refl _) (by omega), Option.bind_some, rowG_range n (k + 1) (fun q h1 h2 => h q (by omega) (by omega)), Option.bind_some, List.range_succ_eq_map]
    simp only [List.map_cons, List.map_map, Nat.add_zero]
    congr 2
    refine List.map_congr_left fun j _ => ?_
    simp only [Function.comp]
    congr 1; omega
theorem gridN_range {f : Int → Int → Option Int} {g : Nat → Nat → Int} {w : Nat} : ∀ (n i : Nat), (∀ p q, i ≤ p → p < i + n → q < w → f (p : Int) (q : Int) = some (g p q)) → Grid.gridN f w i n = some ((List.range n).map fun p => (List.range w).map fun q => g (i + p) q)
  | 0, i, h => rfl
  | n + 1, i, h => by
    simp only [Grid.gridN]
    rw [rowG_range (g := g i) w 0 (fun q _ h2 => h i q (Nat.le_refl _) (by omega) (by omega)), Option.bind_some, gridN_range n (i + 1) (fun p q h1 h2 h3 => h p q (by omega) (by omega) h3), Option.bind_some, List.range_succ_eq_map]
    simp only [List.map_cons, List.map_map, Nat.add_zero, Nat.zero_add]
    congr 2
    refine List.map_congr_left fun j _ => ?_
    simp only [Function.comp]
    refine List.map_congr_left fun q _ => ?_
    congr 1; omega
theorem gridG_build {f : Int → Int → Option Int} {g : Nat → Nat → Int} {h w : Nat} (hh : h ≤ 1000) (hw : w ≤ 1000) (hf : ∀ i j, i < h → j < w → f (i : Int) (j : Int) = some (g i j)) : Grid.gridG f (h : Int) (w : Int) = some (build h w g) := by
  unfold Grid.gridG
  rw [if_pos ⟨by omega, by rw [Int.toNat_natCast]; omega, by omega, by rw [Int.toNat_natCast]; omega⟩, Int.toNat_natCast, Int.toNat_natCast, gridN_range h 0 (fun p q _ h2 h3 => hf p q (by omega) h3)]
  simp only [Nat.zero_add]; rfl
theorem rdLit {m : List (List Int)} (i : Nat) : Lit.rd_L1 m (i : Int) = m.getD i [] := by unfold Lit.rd_L1; rw [Int.toNat_natCast]
def rm : Nat → Nat → Nat → Nat → Nat
  | 0, x, b, acc => acc
  | n + 1, x, b, acc => if b = 0 then acc else rm n (mulx x) (b / 2) (if b % 2 = 1 then acc ^^^ x else acc)
def accN (a b : Nat) : Nat → Nat
  | 0 => 0
  | j + 1 => accN a b j ^^^ bitx a b j
theorem rm_acc {a b : Nat} : ∀ (n j : Nat), b < 2 ^ (j + n) → rm n (pwx a j) (b / 2 ^ j) (accN a b j) = accN a b (j + n)
  | 0, j, h => rfl
  | n + 1, j, h => by
    simp only [rm]
    have hb : bitx a b j = if b / 2 ^ j % 2 = 1 then pwx a j else 0 := by
      unfold bitx
      rw [Nat.testBit_eq_decide_div_mod_eq]
      simp
    by_cases h0 : b / 2 ^ j = 0
    · rw [if_pos h0]
      have hz : ∀ q, j ≤ q → bitx a b q = 0 := fun q hq => by
        unfold bitx
        have hlt : b < 2 ^ j := by
          rcases Nat.div_eq_zero_iff.1 h0 with h | h
          · exact absurd h (Nat.ne_of_gt (Nat.two_pow_pos j))
          · exact h
        rw [Nat.testBit_lt_two_pow (Nat.lt_of_lt_of_le hlt (Nat.pow_le_pow_right (by omega) hq))]
        rfl
      have : ∀ q, accN a b (j + q) = accN a b j := fun q => by
        induction q with
        | zero => rfl
        | succ q ih => rw [← Nat.add_assoc]; simp only [accN]; rw [ih, hz (j + q) (by omega), Nat.xor_zero]
      exact (this (n + 1)).symm
    · rw [if_neg h0, Nat.div_div_eq_div_mul, ← Nat.pow_succ]
      have e1 : (if b / 2 ^ j % 2 = 1 then accN a b j ^^^ pwx a j else accN a b j) = accN a b (j + 1) := by
        simp only [accN, hb]
        split
        · rfl
        · rw [Nat.xor_zero]
      rw [e1, show mulx (pwx a j) = pwx a (j + 1) from rfl, rm_acc n (j + 1) (by rw [show j + 1 + n = j + (n + 1) by omega]; exact h)]
      congr 1; omega
theorem rm_gm {a b : Nat} (hb : b < 256) : rm 8 a b 0 = gm a b := by
  have := rm_acc (a := a) (b := b) 8 0 (by simpa using hb)
  simp only [Nat.pow_zero, Nat.div_one, accN] at this
  rw [show pwx a 0 = a from rfl] at this
  rw [this]
  show accN a b 8 = gm a b
  simp only [accN, gm, Nat.zero_xor]
theorem xor_i64 {a b : Nat} (ha : a < 65536) (hb : b < 65536) : Go.bits .xor .i64 (a : Int) (b : Int) = ((a ^^^ b : Nat) : Int) := by
  show IntKind.i64.wrap (((BitVec.ofInt 64 (a : Int) ^^^ BitVec.ofInt 64 (b : Int)).toNat : Nat) : Int) = _
  rw [ofInt_nat, ofInt_nat, BitVec.toNat_xor, BitVec.toNat_ofNat, BitVec.toNat_ofNat, Nat.mod_eq_of_lt (by omega), Nat.mod_eq_of_lt (by omega)]
  have := Nat.xor_lt_two_pow (n := 16) (x := a) (y := b) (by omega) (by omega)
  unfold IntKind.wrap
  simp [IntKind.bits, IntKind.signed]
  omega
theorem mul_l0 : ∀ (n k x b acc : Nat), n ≤ 8 → b < 2 ^ n → x < 256 → acc < 256 → n < k → quietusref04_Mul.l0 k (x : Int) (b : Int) (acc : Int) = some ((rm n x b acc : Nat) : Int)
  | 0, k, x, b, acc, hn, hb, hx, ha, hk => by
    obtain ⟨k, rfl⟩ : ∃ q, k = q + 1 := ⟨k - 1, by omega⟩
    have : b = 0 := by simpa using hb
    subst this
    simp only [quietusref04_Mul.l0, rm]
    rw [if_neg (by omega)]
    congr 1; omega
  | n + 1, k, x, b, acc, hn, hb, hx, ha, hk => by
    obtain ⟨k, rfl⟩ : ∃ q, k = q + 1 := ⟨k - 1, by omega⟩
    simp only [quietusref04_Mul.l0, rm]
    by_cases h0 : b = 0
    · subst h0
      rw [if_neg (by omega), if_pos rfl]
      congr 1; omega
    · rw [if_pos (by omega), if_neg h0]
      have hb2 : b / 2 < 2 ^ n := by rw [Nat.pow_succ] at hb; omega
      have hbl : b < 2 ^ (n + 1) := hb
      have e1 : wrap64 (2 * (x : Int)) = ((2 * x : Nat) : Int) := by rw [w64 (by omega)]; omega
      have em : Int.tmod (b : Int) 2 = ((b % 2 : Nat) : Int) := by rw [Int.tmod_eq_emod_of_nonneg (by omega)]; omega
      have ed : Int.tdiv (b : Int) 2 = ((b / 2 : Nat) : Int) := by rw [Int.tdiv_eq_ediv_of_nonneg (by omega)]; omega
      have hmx := mulx_lt x hx
      have step : ∀ acc' : Nat, acc' < 256 → wrap64 ((b / 2 : Nat) : Int) = ((b / 2 : Nat) : Int) → (if wrap64 (2 * (x : Int)) > 255 then quietusref04_Mul.l0 k (Go.bits .xor .i64 (wrap64 (2 * (x : Int))) 285) (wrap64 (Int.tdiv (b : Int) 2)) (acc' : Int) else quietusref04_Mul.l0 k (wrap64 (2 * (x : Int))) (wrap64 (Int.tdiv (b : Int) 2)) (acc' : Int)) = some ((rm n (mulx x) (b / 2) acc' : Nat) : Int) := fun acc' ha' hw => by
        rw [e1, ed, hw]
        by_cases h2 : 255 < 2 * x
        · rw [if_pos (by omega), show (285 : Int) = ((285 : Nat) : Int) from rfl, xor_i64 (by omega) (by omega)]
          have : (2 * x) ^^^ 285 = mulx x := by unfold mulx; rw [if_pos h2]
          rw [this]
          exact mul_l0 n k (mulx x) (b / 2) acc' (by omega) hb2 hmx ha' (by omega)
        · rw [if_neg (by omega)]
          have : 2 * x = mulx x := by unfold mulx; rw [if_neg h2]
          rw [this]
          exact mul_l0 n k (mulx x) (b / 2) acc' (by omega) hb2 hmx ha' (by omega)
      have hb8 : b < 256 := Nat.lt_of_lt_of_le hb (by have := Nat.pow_le_pow_right (n := 2) (by omega) hn; omega)
      have hw : wrap64 ((b / 2 : Nat) : Int) = ((b / 2 : Nat) : Int) := w64 (by omega)
      by_cases hodd : b % 2 = 1
      · rw [if_pos (by rw [em]; omega), if_pos hodd, xor_i64 (by omega) (by omega)]
        exact step (acc ^^^ x) (xor_lt ha hx) hw
      · rw [if_neg (by rw [em]; omega), if_neg hodd]
        exact step acc ha hw
theorem refMul_f {a b : Int} (ha : Byte a) (hb : Byte b) {k : Nat} (hk : 20 ≤ k) : quietusref04_Mul.f k a b = some (mulI a b) := by
  obtain ⟨a, rfl⟩ := Int.eq_ofNat_of_zero_le ha.1
  obtain ⟨b, rfl⟩ := Int.eq_ofNat_of_zero_le hb.1
  have ha' : a < 256 := by have := ha.2; omega
  have hb' : b < 256 := by have := hb.2; omega
  unfold quietusref04_Mul.f mulI
  rw [w64 (by omega), w64 (by omega)]
  have := mul_l0 8 k a b 0 (by omega) (by omega) ha' (by omega) (by omega)
  rw [show ((0 : Nat) : Int) = 0 from rfl] at this
  rw [this, rm_gm hb', Int.toNat_natCast, Int.toNat_natCast]
def sumR (a : List Int) (by_ : Int) (b : List Int) : List Int := (List.range a.length).map fun i => xorI (a.getD i 0) (mulI by_ (b.getD i 0))
theorem Sum_l0 {a b : List Int} {y : Int} (ha : ByteL a) (hy : Byte y) (hb : ByteL b) (hl : a.length ≤ b.length) (hm : a.length ≤ 1000) : ∀ (d k i : Nat) (acc : List Int), i + d = a.length → d + 30 < k → acc = (List.range i).map (fun i => xorI (a.getD i 0) (mulI y (b.getD i 0))) → quietusref05_Sum.l0 k a y b acc i = some (sumR a y b)
  | d, 0, i, acc, hd, hk, he => by omega
  | d, k + 1, i, acc, hd, hk, he => by
    simp only [quietusref05_Sum.l0]
    by_cases hi : i < a.length
    · have hac : acc.length = i := by rw [he]; simp
      rw [if_pos (by omega), if_pos (by omega), if_pos (by omega), rdI, rdI, refMul_f hy (hb i) (by omega), Option.bind_some, if_pos (by omega), bits_xorI (ha i) (byte_mulI hy (hb i)), wS i (by omega)]
      exact Sum_l0 ha hy hb hl hm (d - 1) k (i + 1) _ (by omega) (by omega) (by rw [he, List.range_succ, List.map_append]; rfl)
    · rw [if_neg (by omega), he]
      have : i = a.length := by omega
      rw [this]; rfl
theorem Sum_f {a b : List Int} {y : Int} (ha : ByteL a) (hy : Byte y) (hb : ByteL b) (hl : a.length ≤ b.length) (hm : a.length ≤ 1000) {k : Nat} (hk : 1100 ≤ k) : quietusref05_Sum.f k a y b = some (sumR a y b) := by
  unfold quietusref05_Sum.f
  have := Sum_l0 ha hy hb hl hm a.length k 0 [] (by omega) (by omega) rfl
  simpa only [Int.natCast_zero] using this
theorem getD_map_range' {n : Nat} (f : Nat → Int) (c : Nat) : ((List.range n).map f).getD c 0 = if c < n then f c else 0 := by
  by_cases h : c < n
  · rw [if_pos h, List.getD_eq_getElem?_getD, List.getElem?_map, List.getElem?_range h]; rfl
  · rw [if_neg h, List.getD_eq_getElem?_getD, List.getElem?_eq_none (by simp; omega)]; rfl
theorem byteL_range {n : Nat} {f : Nat → Int} (h : ∀ i, i < n → Byte (f i)) : ByteL ((List.range n).map f) := fun c => by
  rw [getD_map_range']
  split
  · exact h c ‹_›
  · exact byte_zero
def combR (coef : List Int) (rows : Grid) (n : Nat) : List Int := (List.range n).map fun j => sumI rows.length fun t => mulI (coef.getD t 0) (el rows t j)
theorem Combine_l0 {x : List Int} {rows : Grid} {n : Nat} (hx : ByteL x) (hb : Bytes rows) (hl : rows.length ≤ x.length) (hr : ∀ t, t < rows.length → n ≤ (rows.getD t []).length) (hm : rows.length ≤ 1000) (hn : n ≤ 1000) : ∀ (d k i : Nat) (acc : List Int), i + d = rows.length → d + 1200 < k → acc = (List.range n).map (fun j => sumI i fun t => mulI (x.getD t 0) (el rows t j)) → quietusref05_Combine.l0 k x rows acc i = some (combR x rows n)
  | d, 0, i, acc, hd, hk, he => by omega
  | d, k + 1, i, acc, hd, hk, he => by
    simp only [quietusref05_Combine.l0]
    by_cases hi : i < rows.length
    · have hac : acc.length = n := by rw [he]; simp
      have hba : ByteL acc := by rw [he]; exact byteL_range fun j _ => byte_sumI fun t _ => byte_mulI (hx t) (hb t j)
      rw [if_pos (by omega), if_pos (by omega), if_pos (by omega), rdI, rdL, Sum_f hba (hx i) (fun j => hb i j) (by rw [hac]; exact hr i hi) (by omega) (by omega), Option.bind_some, wS i (by omega)]
      refine Combine_l0 hx hb hl hr hm hn (d - 1) k (i + 1) _ (by omega) (by omega) ?_
      unfold sumR
      rw [hac]
      refine List.map_congr_left fun j hj => ?_
      rw [he, getD_map_range', if_pos (by simpa using hj)]
      rfl
    · rw [if_neg (by omega), he]
      have : i = rows.length := by omega
      rw [this]; rfl
theorem Combine_f {x : List Int} {rows : Grid} {n : Nat} (hx : ByteL x) (hb : Bytes rows) (hl : rows.length ≤ x.length) (hr : ∀ t, t < rows.length → n ≤ (rows.getD t []).length) (hm : rows.length ≤ 1000) (hn : n ≤ 1000) {k : Nat} (hk : 2300 ≤ k) : quietusref05_Combine.f k x rows n = some (combR x rows n) := by
  unfold quietusref05_Combine.f
  rw [if_pos (by omega), if_pos (by rw [Int.toNat_natCast]; omega), Int.toNat_natCast]
  have := Combine_l0 hx hb hl hr hm hn rows.length k 0 (List.replicate n 0) (by omega) (by omega) (by
    apply List.ext_getElem?
    intro i
    simp only [List.getElem?_replicate, List.getElem?_map]
    by_cases h : i < n
    · rw [if_pos h, List.getElem?_range h]; rfl
    · rw [if_neg h, List.getElem?_eq_none (by simp; omega)]; rfl)
  simpa only [Int.natCast_zero] using this
end Go.Proofs.YtijebgceopddmaaDoor.Fn
end
section
set_option linter.unusedVariables false
set_option linter.unusedSimpArgs false
namespace Go.Proofs.YtijebgceopddmaaDoor.Fn
open Go.RowKit Go.Proofs.YtijebgceopddmaaDoorW.PrintWords Go.Proofs.YtijebgceopddmaaDoorW.PrintMore Go.Proofs.YtijebgceopddmaaDoor.Gf Go.Proofs.YtijebgceopddmaaDoor.Prt QMat QGf
theorem rdP {m : List (List Int)} (i : Nat) : Prt.rd_L1 m (i : Int) = m.getD i [] := by unfold Prt.rd_L1; rw [Int.toNat_natCast]
def Ev {α : Type} (f : Nat → Option α) (r : α) : Prop := ∃ K, ∀ k, K ≤ k → f k = some r
theorem Ev.of {α : Type} {f g : Nat → Option α} {r : α} (h : Ev g r) (K : Nat) (e : ∀ k, K ≤ k → f (k + 1) = g k) : Ev f r := by
  obtain ⟨M, hM⟩ := h
  refine ⟨M + K + 1, fun k hk => ?_⟩
  obtain ⟨k', rfl⟩ : ∃ k', k = k' + 1 := ⟨k - 1, by omega⟩
  rw [e k' (by omega)]; exact hM k' (by omega)
theorem Ev.sub {α : Type} {f g : Nat → Option α} {r : α} (h : Ev g r) (K : Nat) (e : ∀ k, K ≤ k → f k = g k) : Ev f r := by
  obtain ⟨M, hM⟩ := h
  exact ⟨M + K, fun k hk => by rw [e k (by omega)]; exact hM k (by omega)⟩
theorem Ev.val {α : Type} {f : Nat → Option α} {r : α} (K : Nat) (e : ∀ k, K ≤ k → f k = some r) : Ev f r := ⟨K, e⟩
theorem Ev.bind {α β : Type} {f : Nat → Option α} {a : α} {g : Nat → α → Option β} {r : β} (h : Ev f a) (h2 : Ev (fun k => g k a) r) : Ev (fun k => (f k).bind (g k)) r := by
  obtain ⟨M, hM⟩ := h
  obtain ⟨M2, hM2⟩ := h2
  exact ⟨M + M2, fun k hk => by show (f k).bind (g k) = _; rw [hM k (by omega)]; exact hM2 k (by omega)⟩
theorem rd_build {h w : Nat} {G : Nat → Nat → Int} {i : Nat} (hi : i < h) : rd_L1 (build h w G) (i : Int) = (List.range w).map (G i) := by
  unfold rd_L1; rw [Int.toNat_natCast, build_row h w G i hi]
theorem rd_row {w : Nat} {G : Nat → Int} {j : Nat} (hj : j < w) : rd ((List.range w).map G) (j : Int) = G j := by
  rw [rdI]; simp [List.getD_eq_getElem?_getD, List.getElem?_map, List.getElem?_range hj]
theorem build_congr {h w : Nat} {G G' : Nat → Nat → Int} (e : ∀ a b, a < h → b < w → G a b = G' a b) : build h w G = build h w G' :=
  grid_ext (shape_build _ _ _) (shape_build _ _ _) fun i j hi hj => by rw [el_build _ _ _ _ _ hi hj, el_build _ _ _ _ _ hi hj]; exact e i j hi hj
theorem build_set {h w : Nat} {G : Nat → Nat → Int} {i : Nat} (F : Nat → Int) : (build h w G).set i ((List.range w).map F) = build h w fun a b => if a = i then F b else G a b := by
  unfold build
  apply List.ext_getElem (by simp)
  intro n h1 h2
  simp only [List.getElem_set, List.getElem_map, List.getElem_range]
  by_cases e : i = n
  · subst e; simp
  · rw [if_neg e]
    refine List.map_congr_left fun b _ => ?_
    rw [if_neg (fun h => e h.symm)]
theorem row_set {w j : Nat} {F : Nat → Int} {v : Int} : ((List.range w).map F).set j v = (List.range w).map fun b => if b = j then v else F b := by
  apply List.ext_getElem (by simp)
  intro n h1 h2
  simp only [List.getElem_set, List.getElem_map, List.getElem_range]
  by_cases e : j = n
  · subst e; simp
  · rw [if_neg e, if_neg (fun h => e h.symm)]
theorem len_build (h w : Nat) (G : Nat → Nat → Int) : (build h w G).length = h := by simp [build]
theorem len_row (w : Nat) (F : Nat → Int) : ((List.range w).map F).length = w := by simp
theorem mulI_comm {a b : Int} (ha : Byte a) (hb : Byte b) : mulI a b = mulI b a := by
  unfold mulI; rw [gm_comm (by have := ha.2; have := ha.1; omega) (by have := hb.2; have := hb.1; omega)]
theorem mulI_zero {b : Int} (hb : Byte b) : mulI 0 b = 0 := by
  unfold mulI; rw [show (0 : Int).toNat = 0 from rfl, zero_gm (by have := hb.2; have := hb.1; omega)]; rfl
theorem xorI_zero {b : Int} (hb : Byte b) : xorI b 0 = b := by
  unfold xorI; rw [show (0 : Int).toNat = 0 from rfl, Nat.xor_zero]; have := hb.1; omega
section
variable {h w r c : Nat} {G : Nat → Nat → Int} {x6 : List Int} {R : Grid × List Int} {x44 x45 : Int}
theorem red_l5 (hh : h < 1000) (hw : w < 1000) (hG : ∀ a b, Byte (G a b)) (hr : r < h) {i : Nat} (hi : i < h) (hne : i ≠ r) {e : Int} (he : Byte e)
    (hc : Ev (fun k => matrix_reduce.l4 k (build h w fun a b => if a = i then xorI (G a b) (mulI e (G r b)) else G a b) x6 c r x44 x45 h ((i + 1 : Nat) : Int)) R) :
    ∀ d j, j + d = w → Ev (fun k => matrix_reduce.l5 k (build h w fun a b => if a = i ∧ b < j then xorI (G a b) (mulI e (G r b)) else G a b) x6 c r i e x44 x45 h i w j) R
  | 0, j, hj => by
    refine hc.of 0 fun k _ => ?_
    simp only [matrix_reduce.l5]
    rw [if_neg (by omega), wS i (by omega)]
    congr 1
    refine build_congr fun a b _ hb => ?_
    by_cases ha : a = i
    · rw [if_pos ⟨ha, by omega⟩, if_pos ha]
    · rw [if_neg (fun h => ha h.1), if_neg ha]
  | d + 1, j, hj => by
    refine (red_l5 hh hw hG hr hi hne he hc d (j + 1) (by omega)).of 20 fun k hk => ?_
    simp only [matrix_reduce.l5]
    rw [rd_build hi, rd_build hr, len_build, len_row, len_row, rd_row (show j < w by omega), rd_row (show j < w by omega)]
    rw [if_pos (by omega), if_pos (by omega), if_pos (by omega), if_pos (by omega), if_pos (by omega), if_pos (by omega), if_pos (by omega), if_pos (by omega)]
    rw [if_neg (by omega), if_neg (by omega), Mul_f he (hG r j) k (by omega), Option.bind_some, bits_xorI (hG i j) (byte_mulI he (hG r j)), wS j (by omega), Int.toNat_natCast, Int.toNat_natCast, row_set, build_set]
    congr 1
    refine build_congr fun a b _ hb => ?_
    by_cases ha : a = i
    · subst ha
      rw [if_pos rfl]
      by_cases hb : b = j
      · subst hb; rw [if_pos rfl, if_pos ⟨rfl, by omega⟩]
      · rw [if_neg hb]
        by_cases hb2 : b < j
        · rw [if_pos ⟨rfl, hb2⟩, if_pos ⟨rfl, by omega⟩]
        · rw [if_neg (fun h => hb2 h.2), if_neg (fun h => by omega)]
    · rw [if_neg ha, if_neg (fun h => ha h.1), if_neg (fun h => ha h.1)]
theorem red_l4 (hh : h < 1000) (hw : w < 1000) (hG : ∀ a b, Byte (G a b)) (hr : r < h) (hcw : c < w) (h6 : x6.length < 1000)
    (hc : Ev (fun k => matrix_reduce.l1 k (build h w fun a b => if a ≠ r then xorI (G a b) (mulI (G a c) (G r b)) else G a b) (x6 ++ [(c : Int)]) x44 (wrap64 (x45 + 1))) R) :
    ∀ d i, i + d = h → Ev (fun k => matrix_reduce.l4 k (build h w fun a b => if a < i ∧ a ≠ r then xorI (G a b) (mulI (G a c) (G r b)) else G a b) x6 c r x44 x45 h i) R
  | 0, i, hi => by
    refine hc.of 0 fun k _ => ?_
    simp only [matrix_reduce.l4]
    rw [if_neg (by omega), if_pos (by omega)]
    congr 1
    refine build_congr fun a b ha hb => ?_
    by_cases h : a ≠ r
    · rw [if_pos ⟨by omega, h⟩, if_pos h]
    · rw [if_neg (fun x => h x.2), if_neg h]
  | d + 1, i, hi => by
    have ih := red_l4 hh hw hG hr hcw h6 hc d (i + 1) (by omega)
    by_cases hir : i = r
    · refine ((ih.of 0 (f := fun k => matrix_reduce.j5 k (build h w fun a b => if a < i ∧ a ≠ r then xorI (G a b) (mulI (G a c) (G r b)) else G a b) x6 c r i (G i c) x44 x45 h i false) fun k _ => ?_).of 0 fun k _ => ?_)
      · simp only [matrix_reduce.j5]
        rw [if_neg (by simp), wS i (by omega)]
        congr 1
        refine build_congr fun a b ha hb => ?_
        by_cases h : a ≠ r
        · by_cases h2 : a < i
          · rw [if_pos ⟨h2, h⟩, if_pos ⟨by omega, h⟩]
          · rw [if_neg (fun x => h2 x.1), if_neg (fun x => by omega)]
        · rw [if_neg (fun x => h x.2), if_neg (fun x => h x.2)]
      · simp only [matrix_reduce.l4]
        rw [rd_build (show i < h by omega), len_build, len_row, rd_row hcw, if_pos (by omega), if_pos (by omega), if_pos (by omega), if_pos (by omega), if_pos (by omega), if_pos (by omega), if_neg (fun x => by omega)]
    · have hval : (if i < i ∧ i ≠ r then xorI (G i c) (mulI (G i c) (G r c)) else G i c) = G i c := if_neg (fun x => by omega)
      by_cases hz : G i c = 0
      · refine ((ih.of 0 (f := fun k => matrix_reduce.j5 k (build h w fun a b => if a < i ∧ a ≠ r then xorI (G a b) (mulI (G a c) (G r b)) else G a b) x6 c r i (G i c) x44 x45 h i false) fun k _ => ?_).of 0 fun k _ => ?_)
        · simp only [matrix_reduce.j5]
          rw [if_neg (by simp), wS i (by omega)]
          congr 1
          refine build_congr fun a b ha hb => ?_
          by_cases h : a ≠ r
          · by_cases h2 : a < i
            · rw [if_pos ⟨h2, h⟩, if_pos ⟨by omega, h⟩]
            · by_cases h3 : a = i
              · subst h3
                rw [if_neg (fun x => h2 x.1), if_pos ⟨by omega, h⟩, hz, mulI_zero (hG r b), xorI_zero (hG a b)]
              · rw [if_neg (fun x => h2 x.1), if_neg (fun x => by omega)]
          · rw [if_neg (fun x => h x.2), if_neg (fun x => h x.2)]
        · simp only [matrix_reduce.l4]
          rw [rd_build (show i < h by omega), len_build, len_row, rd_row hcw, if_pos (by omega), if_pos (by omega), if_pos (by omega), if_pos (by omega), if_pos (by omega), if_neg (by omega), hval, hz]
          rfl
      · have h5 := red_l5 (G := fun a b => if a < i ∧ a ≠ r then xorI (G a b) (mulI (G a c) (G r b)) else G a b) (x6 := x6) (c := c) (x44 := x44) (x45 := x45) (R := R) hh hw (fun a b => by
          show Byte (if a < i ∧ a ≠ r then _ else _)
          split
          · exact byte_xorI (hG _ _) (byte_mulI (hG _ _) (hG _ _))
          · exact hG _ _) hr (show i < h by omega) hir (hG i c) ?_ w 0 (by omega)
        · refine ((h5.of 0 (f := fun k => matrix_reduce.j5 k (build h w fun a b => if a < i ∧ a ≠ r then xorI (G a b) (mulI (G a c) (G r b)) else G a b) x6 c r i (G i c) x44 x45 h i true) fun k _ => ?_).of 0 fun k _ => ?_)
          · simp only [matrix_reduce.j5]
            rw [if_pos trivial, rd_build (show i < h by omega), len_build, len_row, if_pos (by omega), if_pos (by omega)]
            simp
          · simp only [matrix_reduce.l4]
            rw [rd_build (show i < h by omega), len_build, len_row, rd_row hcw, if_pos (by omega), if_pos (by omega), if_pos (by omega), if_pos (by omega), if_pos (by omega), if_neg (by omega), hval]
            have : (G i c != 0) = true := by simpa using hz
            rw [this]
        · refine ih.sub 0 fun k _ => ?_
          congr 1
          refine build_congr fun a b ha hb => ?_
          by_cases h3 : a = i
          · subst h3
            rw [if_pos rfl, if_neg (fun x => by omega), if_neg (fun x => by omega), if_pos ⟨by omega, hir⟩]
          · rw [if_neg h3]
            by_cases h : a < i ∧ a ≠ r
            · rw [if_pos h, if_pos ⟨by omega, h.2⟩]
            · rw [if_neg h, if_neg (fun x => h ⟨by omega, x.2⟩)]
theorem red_l3 (hh : h < 1000) (hw : w < 1000) (hG : ∀ a b, Byte (G a b)) (hr : r < h) {v : Int} (hv : Byte v)
    (hc : Ev (fun k => matrix_reduce.l4 k (build h w fun a b => if a = r then mulI (G a b) v else G a b) x6 c r x44 x45 h 0) R) :
    ∀ d j, j + d = w → Ev (fun k => matrix_reduce.l3 k (build h w fun a b => if a = r ∧ b < j then mulI (G a b) v else G a b) x6 c r v x44 x45 w j) R
  | 0, j, hj => by
    refine hc.of 0 fun k _ => ?_
    simp only [matrix_reduce.l3]
    rw [if_neg (by omega), len_build]
    congr 1
    refine build_congr fun a b _ hb => ?_
    by_cases ha : a = r
    · rw [if_pos ⟨ha, by omega⟩, if_pos ha]
    · rw [if_neg (fun h => ha h.1), if_neg ha]
  | d + 1, j, hj => by
    refine (red_l3 hh hw hG hr hv hc d (j + 1) (by omega)).of 20 fun k hk => ?_
    simp only [matrix_reduce.l3]
    rw [rd_build hr, len_build, len_row, rd_row (show j < w by omega)]
    rw [if_pos (by omega), if_pos (by omega), if_pos (by omega), if_pos (by omega), if_pos (by omega)]
    rw [if_neg (by omega), Mul_f (hG r j) hv k (by omega), Option.bind_some, wS j (by omega), Int.toNat_natCast, Int.toNat_natCast, row_set, build_set]
    congr 1
    refine build_congr fun a b _ hb => ?_
    by_cases ha : a = r
    · subst ha
      rw [if_pos rfl]
      by_cases hb : b = j
      · subst hb; rw [if_pos rfl, if_pos ⟨rfl, by omega⟩]
      · rw [if_neg hb]
        by_cases hb2 : b < j
        · rw [if_pos ⟨rfl, hb2⟩, if_pos ⟨rfl, by omega⟩]
        · rw [if_neg (fun h => hb2 h.2), if_neg (fun h => by omega)]
    · rw [if_neg ha, if_neg (fun h => ha h.1), if_neg (fun h => ha h.1)]
theorem swap_build {q : Nat} (hr : r < h) (hq : q < h) : Pr.swapL (build h w G) r q = some (build h w fun a b => G (if a = r then q else if a = q then r else a) b) := by
  unfold Pr.swapL
  rw [if_pos (by rw [len_build]; omega), Int.toNat_natCast, Int.toNat_natCast, build_row h w G q hq, build_row h w G r hr, build_set, build_set]
  congr 1
  refine build_congr fun a b _ _ => ?_
  by_cases h1 : a = q
  · subst h1
    rw [if_pos rfl]
    by_cases h2 : a = r
    · subst h2; rw [if_pos rfl]
    · rw [if_neg h2, if_pos rfl]
  · rw [if_neg h1]
    by_cases h2 : a = r
    · rw [if_pos h2, if_pos h2]
    · rw [if_neg h2, if_neg h2, if_neg h1]
theorem red_found {m : Grid} (sm : Shape m h w) (hb : Bytes m) (hh : h < 1000) (hw : w < 1000) (hr : r < h) {q : Nat} (hq : q < h) (hcw : c < w) (hz : el m q c ≠ 0) (h6 : x6.length < 1000)
    (hc : Ev (fun k => matrix_reduce.l1 k (clearG m r q c) (x6 ++ [(c : Int)]) x44 (wrap64 (x45 + 1))) R) :
    Ev (fun k => (Pr.swapL m r q).bind fun t117 => (if 0 ≤ (r : Int) then (if (r : Int) < (m.length : Int) then (if (c : Int) < ((rd_L1 t117 r).length : Int) then ((gf_Inv.f k (rd (rd_L1 t117 r) c)).bind fun bt120 => (matrix_reduce.l3 k t117 x6 c r bt120.1 x44 x45 ((rd_L1 t117 r).length : Int) 0)) else (none)) else (none)) else (none))) R := by
  have hm : m = build h w (el m) := (build_el sm).symm
  have hS : Pr.swapL m r q = some (build h w fun a b => el m (if a = r then q else if a = q then r else a) b) := by
    conv => lhs; rw [hm]
    exact swap_build hr hq
  have hB : ∀ a b, Byte (el m (if a = r then q else if a = q then r else a) b) := fun a b => hb _ _
  have hv : Byte (invI (el m q c)) := byte_invI (hb q c)
  have h3 := red_l3 (G := fun a b => el m (if a = r then q else if a = q then r else a) b) (x6 := x6) (c := c) (x44 := x44) (x45 := x45) (R := R) hh hw hB hr hv ?_ w 0 (by omega)
  · refine h3.sub 20 fun k hk => ?_
    simp only [hS, Option.bind_some]
    rw [rd_build hr, len_row, rd_row hcw, if_pos (by omega), if_pos (by rw [sm.rows]; omega), if_pos (by omega)]
    have e : el m (if r = r then q else if r = q then r else r) c = el m q c := by rw [if_pos rfl]
    rw [e, Inv_f (hb q c) k (by omega), Option.bind_some, if_neg hz]
    simp
  · have h4 := red_l4 (G := fun a b => if a = r then mulI (el m (if a = r then q else if a = q then r else a) b) (invI (el m q c)) else el m (if a = r then q else if a = q then r else a) b) (x6 := x6) (c := c) (x44 := x44) (x45 := x45) (R := R) hh hw (fun a b => by
      show Byte (if a = r then _ else _)
      split
      · exact byte_mulI (hb _ _) hv
      · exact hb _ _) hr hcw h6 ?_ h 0 (by omega)
    · refine h4.sub 0 fun k _ => ?_
      simp
    · refine hc.sub 0 fun k _ => ?_
      congr 1
      unfold clearG
      rw [sm.rows, shape_cols sm (by omega)]
      refine build_congr fun a b _ _ => ?_
      by_cases ha : a = r
      · subst ha
        rw [if_neg (by simp), if_pos rfl, if_pos rfl, if_pos rfl]
        exact mulI_comm (hb _ _) hv
      · simp only [if_neg ha, if_pos ha, if_true, mulI_comm (hb q b) hv, ne_eq, ha, not_false_eq_true, if_false]
        by_cases h2 : a = q
        · rw [if_pos h2, if_pos h2, if_pos h2]
        · rw [if_neg h2, if_neg h2, if_neg h2]
theorem red_l2 {m : Grid} (sm : Shape m h w) (hb : Bytes m) (hh : h < 1000) (hw : w < 1000) (hr : r ≤ h) (hcw : c < w) (h6 : x6.length < 1000) :
    ∀ d i, i + d = h → r ≤ i → (∀ q, findFrom m c i d = some q → Ev (fun k => matrix_reduce.l1 k (clearG m r q c) (x6 ++ [(c : Int)]) x44 (wrap64 (x45 + 1))) R) →
      (findFrom m c i d = none → Ev (fun k => matrix_reduce.l1 k m x6 x44 (wrap64 (x45 + 1))) R) → Ev (fun k => matrix_reduce.l2 k m x6 c r i x44 x45) R
  | 0, i, hi, hri, _, h2 => by
    refine (h2 rfl).of 0 fun k _ => ?_
    simp only [matrix_reduce.l2]
    rw [if_neg (by rw [sm.rows]; omega)]
  | d + 1, i, hi, hri, h1, h2 => by
    have hrow : rd_L1 m (i : Int) = m.getD i [] := rdP i
    have hlen : (m.getD i []).length = w := sm.cols i (by omega)
    by_cases hz : el m i c = 0
    · have ff : findFrom m c i (d + 1) = findFrom m c (i + 1) d := by
        show (if el m i c ≠ 0 then some i else findFrom m c (i + 1) d) = _
        rw [if_neg (fun h => h hz)]
      refine (red_l2 sm hb hh hw hr hcw h6 d (i + 1) (by omega) (by omega) (fun q hq => h1 q (by rw [ff]; exact hq)) (fun hn => h2 (by rw [ff]; exact hn))).of 0 fun k _ => ?_
      simp only [matrix_reduce.l2]
      rw [if_pos (by rw [sm.rows]; omega), if_pos (by omega), if_pos (by omega), hrow, hlen, if_pos (by omega), rdI]
      show (if el m i c = 0 then _ else _) = _
      rw [if_pos hz, wS i (by omega)]
    · have ff : findFrom m c i (d + 1) = some i := by
        show (if el m i c ≠ 0 then some i else findFrom m c (i + 1) d) = _
        rw [if_pos hz]
      refine (red_found sm hb hh hw (show r < h by omega) (show i < h by omega) hcw hz h6 (h1 i ff)).of 0 fun k _ => ?_
      simp only [matrix_reduce.l2]
      rw [if_pos (by rw [sm.rows]; omega), if_pos (by omega), if_pos (by omega), hrow, hlen, if_pos (by omega), rdI]
      show (if el m i c = 0 then _ else _) = _
      rw [if_neg hz]
end
def intsL (p : List Nat) : List Int := p.map fun (n : Nat) => (n : Int)
theorem red_l1 {m : Grid} {h w : Nat} (sm : Shape m h w) (hb : Bytes m) (hh : h < 1000) (hw : w < 1000) : ∀ d c, c + d = w →
    Ev (fun k => matrix_reduce.l1 k (elim m c).g (intsL (elim m c).p) w c) ((elim m w).g.take (elim m w).p.length, intsL (elim m w).p)
  | 0, c, hc => by
    obtain rfl : c = w := by omega
    have hg := good_elim sm hb c (Nat.le_refl _)
    have hle := hg.part.le
    refine .val 1 fun k hk => ?_
    obtain ⟨k', rfl⟩ : ∃ k', k = k' + 1 := ⟨k - 1, by omega⟩
    have hl : (intsL (elim m c).p).length = (elim m c).p.length := by simp [intsL]
    simp only [matrix_reduce.l1]
    rw [if_neg (by omega), hl, if_pos (by omega), if_pos (by rw [hg.shape.rows]; omega), Int.toNat_natCast]
  | d + 1, c, hc => by
    have ih := red_l1 sm hb hh hw d (c + 1) (by omega)
    have hg := good_elim sm hb c (by omega)
    have hle := hg.part.le
    have hl : (intsL (elim m c).p).length = (elim m c).p.length := by simp [intsL]
    have hs : elim m (c + 1) = QMat.stepG (elim m c) c := rfl
    refine (red_l2 (x6 := intsL (elim m c).p) (x44 := (w : Int)) (x45 := (c : Int)) (R := ((elim m w).g.take (elim m w).p.length, intsL (elim m w).p)) (r := (elim m c).p.length) (c := c) hg.shape hg.bytes hh hw hle (by omega) (by omega) (h - (elim m c).p.length) (elim m c).p.length (by omega) (Nat.le_refl _) (fun q hq => ?_) (fun hn => ?_)).of 0 fun k _ => ?_
    · have e : find (elim m c).g (elim m c).p.length c = some q := by unfold find; rw [hg.shape.rows]; exact hq
      rw [hs] at ih
      unfold QMat.stepG at ih
      rw [e] at ih
      rw [wS c (by omega)]
      refine ih.sub 0 fun k _ => ?_
      simp [intsL]
    · have e : find (elim m c).g (elim m c).p.length c = none := by unfold find; rw [hg.shape.rows]; exact hn
      rw [hs] at ih
      unfold QMat.stepG at ih
      rw [e] at ih
      rw [wS c (by omega)]
      exact ih
    · simp only [matrix_reduce.l1]
      rw [if_pos (by omega), hl]
theorem columns_f' (m : Grid) : Prt.matrix_columns.f m = some (cols m : Int) := by
  unfold Prt.matrix_columns.f cols
  cases m with
  | nil => simp
  | cons r m => rw [if_neg (by simp only [List.length_cons]; omega), if_pos (by simp only [List.length_cons]; omega), show (0 : Int) = ((0 : Nat) : Int) from rfl, rdP]
theorem red_l0 {m : Grid} {R : Grid × List Int} (hh : m.length < 1000) (hw : ∀ r, r ∈ m → r.length < 1000) (hc : Ev (fun k => matrix_reduce.l1 k m [] (cols m) 0) R) : ∀ d i, i + d = m.length →
    Ev (fun k => matrix_reduce.l0 k m (m.take i ++ List.replicate d []) m.length i) R
  | 0, i, hi => by
    refine hc.of 0 fun k _ => ?_
    simp only [matrix_reduce.l0]
    rw [if_neg (by omega), columns_f', Option.bind_some, List.take_of_length_le (by omega)]
    simp
  | d + 1, i, hi => by
    refine (red_l0 hh hw hc d (i + 1) (by omega)).of 0 fun k _ => ?_
    have hil : i < m.length := by omega
    have hrow : rd_L1 m (i : Int) = m.getD i [] := rdP i
    have hmem : m.getD i [] ∈ m := by
      rw [List.getD_eq_getElem?_getD, List.getElem?_eq_getElem hil]; exact List.getElem_mem hil
    have hl := hw _ hmem
    have hlen : (m.take i ++ List.replicate (d + 1) ([] : List Int)).length = m.length := by simp; omega
    simp only [matrix_reduce.l0]
    rw [if_pos (by omega), if_pos (by omega), if_pos (by omega), hrow, if_pos (by omega), if_pos (by omega), hlen, if_pos (by omega), Int.toNat_natCast, Int.toNat_natCast]
    have hc : Pr.copyL ((m.take i ++ List.replicate (d + 1) ([] : List Int)).set i (List.replicate (m.getD i []).length 0)) m i = some (m.take (i + 1) ++ List.replicate d []) := by
      unfold Pr.copyL
      rw [if_pos (by rw [List.length_set, hlen]; omega)]
      unfold KdMore.copyAt
      rw [Int.toNat_natCast]
      congr 1
      have hset : ((m.take i ++ List.replicate (d + 1) ([] : List Int)).set i (List.replicate (m.getD i []).length 0)).getD i [] = List.replicate (m.getD i []).length 0 := by
        rw [List.getD_eq_getElem?_getD, List.getElem?_set_self (by rw [hlen]; exact hil)]; rfl
      rw [hset, List.set_set]
      have hcop : KdMore.copied (m.getD i []) (List.replicate (m.getD i []).length 0) = m.getD i [] := by simp [KdMore.copied]
      rw [hcop, List.set_append_right _ _ (by simp; omega)]
      have : i - (m.take i).length = 0 := by simp; omega
      rw [this, List.replicate_succ, List.set_cons_zero, List.take_succ_eq_append_getElem hil, List.append_assoc]
      congr 2
      rw [List.getD_eq_getElem?_getD, List.getElem?_eq_getElem hil]; rfl
    rw [hc, Option.bind_some, wS i (by omega)]
theorem reduce_ev {m : Grid} (vm : Valid m) (hb : Bytes m) : Ev (fun k => matrix_reduce.f k m) ((reduce m).1, intsL (reduce m).2) := by
  have h1 := vm.1
  have h2 := vm.cols_le
  have hl := red_l1 vm.shape hb (by omega) (by omega) (cols m) 0 (by omega)
  have h0 := red_l0 (m := m) (by omega) (fun r hr => by have := vm.2.1 r hr; omega) (R := ((reduce m).1, intsL (reduce m).2)) hl m.length 0 (by omega)
  refine h0.sub 0 fun k _ => ?_
  unfold matrix_reduce.f
  rw [if_pos (by omega), if_pos (by omega), Int.toNat_natCast]
  simp
end Go.Proofs.YtijebgceopddmaaDoor.Fn
end
section
set_option linter.unusedVariables false
set_option linter.unusedSimpArgs false
namespace Go.Proofs.YtijebgceopddmaaDoor.Fn
open Go.RowKit Go.Proofs.YtijebgceopddmaaDoorW.PrintWords Go.Proofs.YtijebgceopddmaaDoorW.PrintMore Go.Proofs.YtijebgceopddmaaDoor.Gf Go.Proofs.YtijebgceopddmaaDoor.Pa Go.Proofs.YtijebgceopddmaaDoor.Pr QMat QGf QLin
theorem Ev.some {α : Type} (r : α) : Ev (fun _ => some r) r := ⟨0, fun _ _ => rfl⟩
theorem Reduce_ev {m : Grid} (hb : Bytes m) : Ev (fun k => matrix_Reduce.f k m) (if chk m = 0 then ((reduce m).1, intsL (reduce m).2, 0) else ([], [], chk m)) := by
  by_cases hc : chk m = 0
  · rw [if_pos hc]
    refine Ev.sub (g := fun k => (Prt.matrix_reduce.f k m).bind fun bt112 => some (bt112.1, bt112.2, 0)) (Ev.bind (reduce_ev (chk_zero.1 hc) hb) (Ev.some _)) 100 fun k hk => ?_
    show matrix_Reduce.f k m = _
    unfold matrix_Reduce.f
    rw [Check_f m hk, Option.bind_some, if_pos hc]
  · rw [if_neg hc]
    refine .val 100 fun k hk => ?_
    show matrix_Reduce.f k m = _
    unfold matrix_Reduce.f
    rw [Check_f m hk, Option.bind_some, if_neg hc]
theorem Rank_ev {m : Grid} (hb : Bytes m) : Ev (fun k => matrix_Rank.f k m) (if chk m = 0 then ((rankG m : Int), 0) else (0, chk m)) := by
  obtain ⟨K, hK⟩ := Reduce_ev hb
  refine .val K fun k hk => ?_
  show matrix_Rank.f k m = _
  unfold matrix_Rank.f
  have hK' := hK k hk
  dsimp only at hK'
  rw [hK', Option.bind_some]
  by_cases hc : chk m = 0
  · rw [if_pos hc, if_pos hc]; simp [rankG, intsL]
  · rw [if_neg hc, if_neg hc]; rfl
theorem Rank_valid {m : Grid} (vm : Valid m) (hb : Bytes m) : Ev (fun k => matrix_Rank.f k m) ((rankG m : Int), 0) := by
  have := Rank_ev hb; rw [if_pos (chk_zero.2 vm)] at this; exact this
theorem reduce_big {m : Grid} (hb : Bytes m) {h w : Nat} (sm : Shape m h w) (hw : cols m = w) (hh : h < 1000) (hw2 : w < 1000) : Ev (fun k => Prt.matrix_reduce.f k m) ((reduce m).1, intsL (reduce m).2) := by
  have hl := red_l1 sm hb (by omega) (by omega) w 0 (by omega)
  rw [← hw] at hl
  have hr : ∀ r, r ∈ m → r.length < 1000 := fun r hr => by
    obtain ⟨i, hi, rfl⟩ := List.getElem_of_mem hr
    have := sm.cols i (by rw [← sm.rows]; exact hi)
    rw [List.getD_eq_getElem?_getD, List.getElem?_eq_getElem hi] at this
    simp only [Option.getD_some] at this; omega
  have hlen := sm.rows
  have h0 := red_l0 (m := m) (by omega) hr (R := ((reduce m).1, intsL (reduce m).2)) hl m.length 0 (by omega)
  refine h0.sub 0 fun k _ => ?_
  show Prt.matrix_reduce.f k m = _
  unfold Prt.matrix_reduce.f
  rw [if_pos (by omega), if_pos (by omega), Int.toNat_natCast]
  simp
def upto (p : List Nat) : Bool := decide (∀ k, k < p.length → piv p k = k)
theorem rd_ints {p : List Nat} {i : Nat} : rd (intsL p) (i : Int) = (piv p i : Int) := by
  rw [rdI]; unfold intsL piv
  rw [List.getD_eq_getElem?_getD, List.getD_eq_getElem?_getD, List.getElem?_map]
  cases p[i]? <;> rfl
theorem len_ints (p : List Nat) : (intsL p).length = p.length := by simp [intsL]
theorem set_range {α : Type} {n : Nat} {F : Nat → α} {j : Nat} {v : α} : ((List.range n).map F).set j v = (List.range n).map fun b => if b = j then v else F b := by
  apply List.ext_getElem (by simp)
  intro i h1 h2
  simp only [List.getElem_set, List.getElem_map, List.getElem_range]
  by_cases e : j = i
  · subst e; simp
  · rw [if_neg e, if_neg (fun h => e h.symm)]
theorem map_congr_range {α : Type} {n : Nat} {F G : Nat → α} (h : ∀ b, b < n → F b = G b) : (List.range n).map F = (List.range n).map G :=
  List.map_congr_left fun b hb => h b (List.mem_range.1 hb)
theorem replicate_range {α : Type} (n : Nat) (v : α) : List.replicate n v = (List.range n).map fun _ => v := by
  apply List.ext_getElem (by simp); intro i h1 h2; simp
theorem rdOf_range {n : Nat} {F : Nat → Bool} {i : Nat} (hi : i < n) : rdOf false ((List.range n).map F) (i : Int) = F i := by
  unfold rdOf; rw [Int.toNat_natCast]; simp [List.getD_eq_getElem?_getD, List.getElem?_map, List.getElem?_range hi]
theorem rd_L1_el {R : Grid} {i j : Nat} : rd (rd_L1 R (i : Int)) (j : Int) = el R i j := by rw [rdL, rdI]; rfl
section
variable {R : Grid} {p : List Nat} {n : Nat} {X : List Int} {C : List Int × Grid × Bool}
def solAt (R : Grid) (p : List Nat) (n i : Nat) : List Int := (List.range n).map fun c => if c ∈ p.take i then el R (at_ p c) n else 0
def kerAt (R : Grid) (p : List Nat) (n c i : Nat) : List Int := (List.range n).map fun j => if j = c then 1 else if j ∈ p.take i then el R (at_ p j) c else 0
def pivAt (p : List Nat) (n i : Nat) : List Bool := (List.range n).map fun c => decide (c ∈ p.take i)
theorem mem_take_succ {p : List Nat} {i : Nat} (hi : i < p.length) {c : Nat} : c ∈ p.take (i + 1) ↔ c ∈ p.take i ∨ c = piv p i := by
  rw [List.take_succ_eq_append_getElem hi, List.mem_append]
  have : piv p i = p[i] := by unfold piv; rw [List.getD_eq_getElem?_getD, List.getElem?_eq_getElem hi]; rfl
  rw [this]; simp
theorem at_piv_nodup (hnd : p.Nodup) {i : Nat} (hi : i < p.length) : at_ p (piv p i) = i := by
  have : piv p i = p[i] := by unfold piv; rw [List.getD_eq_getElem?_getD, List.getElem?_eq_getElem hi]; rfl
  rw [this]; unfold at_
  exact hnd.idxOf_getElem i hi
theorem solve_l2 (sR : Shape R p.length (n + 1)) (hnd : p.Nodup) (hpn : ∀ j, j < p.length → piv p j < n) (hp : p.length < 1000) (hn : n < 1000) {c : Nat} (hc : c < n) (hcp : c ∉ p) {x6 : List Int} {x7 : Grid} {x11 : List Bool} (h7 : x7.length < 1000) {x56 : Int}
    (hk : Ev (fun k => matrix_solve.l1 k x6 (x7 ++ [kerRow R p n c]) R (intsL p) x11 x56 ((c + 1 : Nat) : Int) n) C) :
    ∀ d i, i + d = p.length → Ev (fun k => matrix_solve.l2 k x6 x7 R (intsL p) x11 c (kerAt R p n c i) x56 c (intsL p) p.length i n) C
  | 0, i, hi => by
    refine hk.of 0 fun k _ => ?_
    have e : kerAt R p n c i = kerRow R p n c := map_congr_range fun b _ => by rw [List.take_of_length_le (by omega)]
    simp only [matrix_solve.l2]
    rw [if_neg (by omega), if_pos (by omega), wS c (by omega), e]
  | d + 1, i, hi => by
    have hil : i < p.length := by omega
    refine (solve_l2 sR hnd hpn hp hn hc hcp h7 hk d (i + 1) (by omega)).of 0 fun k _ => ?_
    have hrow : (rd_L1 R (i : Int)).length = n + 1 := by rw [rdL]; exact sR.cols i hil
    have hpi := hpn i hil
    simp only [matrix_solve.l2]
    rw [len_ints, sR.rows, hrow, rd_ints, if_pos (by omega), if_pos (by omega), if_pos (by omega), if_pos (by omega), if_pos (by omega), if_pos (by omega), if_pos (by omega), if_pos (by unfold kerAt; rw [List.length_map, List.length_range]; omega), Int.toNat_natCast, rd_L1_el, wS i (by omega)]
    congr 1
    unfold kerAt
    rw [set_range]
    refine map_congr_range fun b hb => ?_
    by_cases h1 : b = piv p i
    · have hb1 : b ≠ c := fun e => hcp (by rw [← e, h1]; exact piv_mem hil)
      rw [if_pos h1, if_neg hb1, if_pos ((mem_take_succ hil).2 (.inr h1)), h1, at_piv_nodup hnd hil]
    · rw [if_neg h1]
      by_cases h2 : b = c
      · rw [if_pos h2, if_pos h2]
      · rw [if_neg h2, if_neg h2]
        by_cases h3 : b ∈ p.take i
        · rw [if_pos h3, if_pos ((mem_take_succ hil).2 (.inl h3))]
        · rw [if_neg h3, if_neg (fun x => ((mem_take_succ hil).1 x).elim h3 h1)]
theorem solve_l1 (sR : Shape R p.length (n + 1)) (hnd : p.Nodup) (hpn : ∀ j, j < p.length → piv p j < n) (hp : p.length < 1000) (hn : n < 1000) {x6 : List Int} :
    ∀ d c (x7 : Grid), c + d = n → x7.length ≤ c → Ev (fun k => matrix_solve.l1 k x6 x7 R (intsL p) (pivAt p n p.length) n c n) (x6, x7 ++ ((List.range' c d).filter fun c => decide (c ∉ p)).map (kerRow R p n), true)
  | 0, c, x7, hc, h7 => by
    refine .val 1 fun k hk => ?_
    obtain ⟨k', rfl⟩ : ∃ k', k = k' + 1 := ⟨k - 1, by omega⟩
    show matrix_solve.l1 (k' + 1) _ _ _ _ _ _ _ _ = _
    simp only [matrix_solve.l1]
    rw [if_neg (by omega)]
    simp
  | d + 1, c, x7, hc, h7 => by
    have hlen : (pivAt p n p.length).length = n := by simp [pivAt]
    have hval : rdOf false (pivAt p n p.length) (c : Int) = decide (c ∈ p) := by
      unfold pivAt; rw [rdOf_range (by omega), List.take_of_length_le (Nat.le_refl _)]
    by_cases hcp : c ∈ p
    · have ih := solve_l1 sR hnd hpn hp hn (x6 := x6) d (c + 1) x7 (by omega) (by omega)
      have e : ((List.range' c (d + 1)).filter fun c => decide (c ∉ p)) = ((List.range' (c + 1) d).filter fun c => decide (c ∉ p)) := by
        rw [List.range'_succ, List.filter_cons, if_neg (by simpa using hcp)]
      rw [e]
      refine ih.of 0 fun k _ => ?_
      simp only [matrix_solve.l1]
      rw [if_pos (by omega), if_pos (by omega), hlen, if_pos (by omega), hval, if_pos (by simpa using hcp), wS c (by omega)]
    · have ih := solve_l1 sR hnd hpn hp hn (x6 := x6) d (c + 1) (x7 ++ [kerRow R p n c]) (by omega) (by simp; omega)
      have e : ((List.range' c (d + 1)).filter fun c => decide (c ∉ p)) = c :: ((List.range' (c + 1) d).filter fun c => decide (c ∉ p)) := by
        rw [List.range'_succ, List.filter_cons, if_pos (by simpa using hcp)]
      rw [e, List.map_cons, show x7 ++ kerRow R p n c :: List.map (kerRow R p n) ((List.range' (c + 1) d).filter fun c => decide (c ∉ p)) = (x7 ++ [kerRow R p n c]) ++ List.map (kerRow R p n) ((List.range' (c + 1) d).filter fun c => decide (c ∉ p)) by simp]
      refine (solve_l2 sR hnd hpn hp hn (by omega) hcp (by omega) ih p.length 0 (by omega)).of 0 fun k _ => ?_
      simp only [matrix_solve.l1]
      rw [if_pos (by omega), if_pos (by omega), hlen, if_pos (by omega), hval, if_neg (by simpa using hcp), if_pos (by omega), if_pos (by omega), Option.bind_some, List.length_replicate, Int.toNat_natCast, if_pos (by omega), Int.toNat_natCast, len_ints]
      have : (List.replicate n (0 : Int)).set c 1 = kerAt R p n c 0 := by
        rw [replicate_range, set_range]; exact map_congr_range fun b _ => by simp
      rw [this]; rfl
theorem solve_l0 (sR : Shape R p.length (n + 1)) (hnd : p.Nodup) (hlt : ∀ j, j < p.length → piv p j < n + 1) (hp : p.length < 1000) (hn : n < 1000) :
    ∀ d i, i + d = p.length → (∀ j, j < i → piv p j ≠ n) → Ev (fun k => matrix_solve.l0 k (solAt R p n i) [] R (intsL p) (pivAt p n i) (intsL p) p.length i n) (if n ∈ p then ([], [], false) else (solX R p n, solK R p n, true))
  | 0, i, hi, ha => by
    have hnp : n ∉ p := fun hm => by
      have h1 := at_lt hm
      exact ha _ (by omega) (at_piv hm)
    rw [if_neg hnp]
    have hpn : ∀ j, j < p.length → piv p j < n := fun j hj => by have := hlt j hj; have := ha j (by omega); omega
    have hl := solve_l1 sR hnd hpn hp hn (x6 := solX R p n) n 0 [] (by omega) (by simp)
    have hK : ([] : Grid) ++ ((List.range' 0 n).filter fun c => decide (c ∉ p)).map (kerRow R p n) = solK R p n := by
      unfold solK frees; rw [List.range_eq_range']; simp
    rw [hK] at hl
    refine hl.of 0 fun k _ => ?_
    have e : solAt R p n i = solX R p n := map_congr_range fun b _ => by rw [List.take_of_length_le (by omega)]
    have e2 : i = p.length := by omega
    simp only [matrix_solve.l0]
    rw [if_neg (by omega), e, e2]; rfl
  | d + 1, i, hi, ha => by
    have hil : i < p.length := by omega
    by_cases h : piv p i = n
    · rw [if_pos (by rw [← h]; exact piv_mem hil)]
      refine .val 1 fun k hk => ?_
      obtain ⟨k', rfl⟩ : ∃ k', k = k' + 1 := ⟨k - 1, by omega⟩
      show matrix_solve.l0 (k' + 1) _ _ _ _ _ _ _ _ _ = _
      simp only [matrix_solve.l0]
      rw [if_pos (by omega), if_pos (by omega), len_ints, if_pos (by omega), rd_ints, if_pos (by omega)]
    · refine (solve_l0 sR hnd hlt hp hn d (i + 1) (by omega) (fun j hj => by
        by_cases e : j = i
        · rw [e]; exact h
        · exact ha j (by omega))).of 0 fun k _ => ?_
      have hpi := hlt i hil
      have hrow : (rd_L1 R (i : Int)).length = n + 1 := by rw [rdL]; exact sR.cols i hil
      have l1 : (solAt R p n i).length = n := by simp [solAt]
      have l2 : (pivAt p n i).length = n := by simp [pivAt]
      simp only [matrix_solve.l0]
      rw [if_pos (by omega), if_pos (by omega), len_ints, if_pos (by omega), rd_ints, if_neg (by omega), sR.rows, if_pos (by omega), if_pos (by omega), hrow, if_pos (by omega), if_pos (by omega), l1, if_pos (by omega), l2, if_pos (by omega), Int.toNat_natCast, rd_L1_el, wS i (by omega)]
      have e1 : (solAt R p n i).set (piv p i) (el R i n) = solAt R p n (i + 1) := by
        unfold solAt; rw [set_range]
        refine map_congr_range fun b _ => ?_
        by_cases h1 : b = piv p i
        · rw [if_pos h1, if_pos ((mem_take_succ hil).2 (.inr h1)), h1, at_piv_nodup hnd hil]
        · rw [if_neg h1]
          by_cases h3 : b ∈ p.take i
          · rw [if_pos h3, if_pos ((mem_take_succ hil).2 (.inl h3))]
          · rw [if_neg h3, if_neg (fun x => ((mem_take_succ hil).1 x).elim h3 h1)]
      have e2 : (pivAt p n i).set (piv p i) true = pivAt p n (i + 1) := by
        unfold pivAt; rw [set_range]
        refine map_congr_range fun b _ => ?_
        by_cases h1 : b = piv p i
        · rw [if_pos h1]; exact (decide_eq_true ((mem_take_succ hil).2 (.inr h1))).symm
        · rw [if_neg h1]
          exact decide_eq_decide.2 ⟨fun h3 => (mem_take_succ hil).2 (.inl h3), fun x => ((mem_take_succ hil).1 x).elim id (fun x => absurd x h1)⟩
      rw [e1, e2]
end
theorem nodup_piv {h w : Nat} {p : List Nat} {R : Mat B} (hR : Rref w p.length (piv p) R) : p.Nodup := by
  unfold List.Nodup
  rw [List.pairwise_iff_getElem]
  intro i j hi hj hij he
  have := hR.inj (i := i) (j := j) hi hj (by unfold piv; rw [List.getD_eq_getElem?_getD, List.getD_eq_getElem?_getD, List.getElem?_eq_getElem hi, List.getElem?_eq_getElem hj]; exact he)
  omega
def solE (o : Option (List Int × Grid)) : List Int × Grid × Bool := match o with | some x => (x.1, x.2, true) | none => ([], [], false)
theorem solve_ev {m : Grid} {b : List Int} {n : Nat} (hb : Bytes m) (hbb : ByteL b) (sm : ∀ i, i < m.length → n ≤ (m.getD i []).length) (hl : b.length = m.length) (hh : m.length < 500) (hn : n < 500) : Ev (fun k => matrix_solve.f k m b n) (solE (solveG m b n)) := by
  have s := sys_of n hb hbb
  have hw1 : wrap64 ((n : Int) + 1) = ((n + 1 : Nat) : Int) := wS n (by omega)
  have e52 : grid_52.f (m.length : Int) (wrap64 ((n : Int) + 1)) (n : Int) m b = some (augG m b n) := by
    unfold grid_52.f
    rw [hw1]
    refine gridG_build (by omega) (by omega) fun i j hi hj => ?_
    unfold Lit.matrix_solve_1.f
    have hr := sm i hi
    by_cases h : j < n
    · rw [if_pos (by omega), if_pos (by omega), if_pos (by omega), if_pos (by omega), rdLit, if_pos (by omega), rdI, if_pos h]; rfl
    · rw [if_neg (by omega), if_pos (by omega), if_pos (by omega), rdI, if_neg h]
  have sa := shape_augG m b n
  have hred : Ev (fun k => Prt.matrix_reduce.f k (augG m b n)) ((reduce (augG m b n)).1, intsL (reduce (augG m b n)).2) := by
    rcases Nat.eq_zero_or_pos m.length with h0 | h0
    · have e : augG m b n = [] := by unfold augG; rw [h0]; rfl
      rw [e]
      exact reduce_ev (m := []) ⟨by simp, by simp, by simp⟩ (by rw [← e]; exact bytes_augG hb hbb)
    · exact reduce_big (bytes_augG hb hbb) sa (shape_cols sa h0) (by omega) (by omega)
  have hple : (reduce (augG m b n)).2.length ≤ m.length := by
    rcases Nat.eq_zero_or_pos m.length with h0 | h0
    · have e : augG m b n = [] := by unfold augG; rw [h0]; rfl
      rw [e, reduce_nil]; simp
    · exact (reduce_rref sa (bytes_augG hb hbb) (shape_cols sa h0)).1
  have hl0 := solve_l0 (R := (reduce (augG m b n)).1) (p := (reduce (augG m b n)).2) (n := n) s.shape (nodup_piv (h := 0) s.rref) s.rref.lt (by omega) (by omega) (reduce (augG m b n)).2.length 0 (by omega) (fun j hj => by omega)
  have hres : solE (solveG m b n) = if n ∈ (reduce (augG m b n)).2 then ([], [], false) else (solX (reduce (augG m b n)).1 (reduce (augG m b n)).2 n, solK (reduce (augG m b n)).1 (reduce (augG m b n)).2 n, true) := by
    unfold solveG solE
    dsimp only
    by_cases h : n ∈ (reduce (augG m b n)).2
    · rw [if_pos h, if_pos h]
    · rw [if_neg h, if_neg h]
  rw [hres]
  have e0 : solAt (reduce (augG m b n)).1 (reduce (augG m b n)).2 n 0 = List.replicate n 0 := by
    rw [replicate_range]; exact map_congr_range fun b _ => by simp
  have e1 : pivAt (reduce (augG m b n)).2 n 0 = List.replicate n false := by
    rw [replicate_range]; exact map_congr_range fun b _ => by simp
  rw [e0, e1] at hl0
  refine Ev.sub (g := fun k => (Prt.matrix_reduce.f k (augG m b n)).bind fun bt138 => matrix_solve.l0 k (List.replicate n 0) ([] : List (List Int)) bt138.1 bt138.2 (List.replicate n false) bt138.2 (bt138.2.length : Int) 0 n) (Ev.bind hred ?_) 0 fun k hk => ?_
  · refine hl0.sub 0 fun k _ => ?_
    rw [len_ints]; rfl
  · show matrix_solve.f k m b n = _
    unfold matrix_solve.f
    rw [e52, Option.bind_some]
    congr 1
    funext bt
    rw [if_pos (by omega), if_pos (by omega), Int.toNat_natCast]
def ExprE (m : Grid) (r : List Int) : List Int × Int := if chk m = 0 then (if 48 < r.length then ([], 2) else if 0 < m.length ∧ r.length ≠ cols m then ([], 1) else (match exprG m r with | some x => (x, 0) | none => ([], 8))) else ([], chk m)
theorem Express_ev {m : Grid} {r : List Int} (hb : Bytes m) (hr : ByteL r) : Ev (fun k => matrix_Express.f k m r) (ExprE m r) := by
  unfold ExprE
  by_cases hc : chk m = 0
  · have vm := chk_zero.1 hc
    have h48 := vm.1
    have hc48 := vm.cols_le
    rw [if_pos hc]
    by_cases h1 : 48 < r.length
    · rw [if_pos h1]
      refine .val 100 fun k hk => ?_
      show matrix_Express.f k m r = _
      unfold matrix_Express.f
      rw [Check_f m hk, Option.bind_some, if_pos hc, if_pos (by omega)]
    · rw [if_neg h1]
      by_cases h2 : 0 < m.length ∧ r.length ≠ cols m
      · rw [if_pos h2]
        refine .val 100 fun k hk => ?_
        show matrix_Express.f k m r = _
        unfold matrix_Express.f
        rw [Check_f m hk, Option.bind_some, if_pos hc, if_neg (by omega), if_pos (by omega), columns_f, Option.bind_some, if_neg (by omega)]
      · rw [if_neg h2]
        have hcol : ∀ j, j < m.length → r.length ≤ (m.getD j []).length := fun j hj => by rw [vm.shape.cols j hj]; omega
        have e46 : grid_46.f (r.length : Int) (m.length : Int) m = some (build r.length m.length fun i k => el m k i) := by
          unfold grid_46.f
          refine gridG_build (by omega) (by omega) fun i j hi hj => ?_
          unfold Lit.matrix_Express_1.f
          have hr := hcol j hj
          rw [if_pos (by omega), if_pos (by omega), if_pos (by omega), rdLit, if_pos (by omega), rdI]; rfl
        have sb : Shape (build r.length m.length fun i k => el m k i) r.length m.length := shape_build _ _ _
        obtain ⟨K, hK⟩ := solve_ev (m := build r.length m.length fun i k => el m k i) (b := r) (n := m.length) (bytes_build fun i j _ _ => hb j i) hr (fun i hi => by rw [len_build] at hi; rw [sb.cols i hi]; exact Nat.le_refl _) (by rw [len_build]) (by rw [len_build]; omega) (by omega)
        have hj0 : Ev (fun k => matrix_Express.j0 k r m) (match exprG m r with | some x => (x, 0) | none => ([], 8)) := by
          refine .val (K + 1) fun k hk => ?_
          obtain ⟨k', rfl⟩ : ∃ k', k = k' + 1 := ⟨k - 1, by omega⟩
          show matrix_Express.j0 (k' + 1) r m = _
          have hK' := hK k' (by omega)
          dsimp only at hK'
          simp only [matrix_Express.j0]
          rw [e46, Option.bind_some, hK', Option.bind_some]
          unfold exprG
          cases solveG (build r.length m.length fun i k => el m k i) r m.length with
          | none => simp [solE]
          | some x => simp [solE]
        refine hj0.sub 100 fun k hk => ?_
        show matrix_Express.f k m r = _
        unfold matrix_Express.f
        rw [Check_f m hk, Option.bind_some, if_pos hc, if_neg (by omega)]
        by_cases h3 : 0 < m.length
        · rw [if_pos (by omega), columns_f, Option.bind_some, if_pos (by omega)]
        · rw [if_neg (by omega)]
  · rw [if_neg hc]
    refine .val 100 fun k hk => ?_
    show matrix_Express.f k m r = _
    unfold matrix_Express.f
    rw [Check_f m hk, Option.bind_some, if_neg hc]
end Go.Proofs.YtijebgceopddmaaDoor.Fn
end
section
set_option linter.unusedVariables false
set_option linter.unusedSimpArgs false
namespace Go.Proofs.YtijebgceopddmaaDoor.Ax
open Go.RowKit
def Parts (P : Program) (R : TypeId → List D → Prop) : List TypeId → List D → Prop
  | [], ds => ds = []
  | t :: ts, ds => P.cellsOf t ≤ ds.length ∧ R t (ds.take (P.cellsOf t)) ∧ Parts P R ts (ds.drop (P.cellsOf t))
def offs (P : Program) : Nat → List Field → Bool
  | _, [] => true
  | o, f :: fs => f.offset == o && offs P (o + P.cellsOf f.type) fs
def cellsAll (P : Program) (ts : List TypeId) : Nat := (ts.map P.cellsOf).sum
def good (P : Program) : Nat → TypeId → Bool
  | 0, _ => false
  | k + 1, t => match P.underlying t with
    | some .bool | some (.int _) | some .string => true
    | some (.slice e) => good P k e && decide (0 < P.cellsOf e)
    | some (.struct fs) => fs.toList.all (fun f => good P k f.type) && offs P 0 fs.toList && P.cellsOf t == cellsAll P (fs.toList.map (·.type))
    | some (.array n e) => good P k e && P.cellsOf t == n * P.cellsOf e
    | _ => false
def Typed (P : Program) : Nat → TypeId → List D → Prop
  | 0, _, _ => False
  | k + 1, t, ds => match P.underlying t with
    | some .bool => ∃ b, ds = [.val (.bool b)]
    | some (.int q) => ∃ m, ds = [.val (.int q m)] ∧ (Lit.int q m).wf = true
    | some .string => ∃ s : ByteArray, ds = [.val (.string s)] ∧ s.size ≤ maxLen
    | some (.slice e) => ∃ xs, ds = [.sl false xs] ∧ ∀ x, x ∈ xs → Typed P k e x.cells ∧ x = (if rowT P e = some true then .agg x.cells else x.cells.headD .any)
    | some (.struct fs) => Parts P (Typed P k) (fs.toList.map (·.type)) ds
    | some (.array n e) => Parts P (Typed P k) (List.replicate n e) ds
    | _ => False
def Reads (W : World) (cs : List Value) (ds : List D) : Prop := ds.length = cs.length ∧ ∀ (j : Nat) u y, cs[j]? = some u → ds[j]? = some y → Rep (fun _ => True) W u y ∧ y.one = true
theorem reads_one {W : World} {u : Value} {y : D} (h : Rep (fun _ => True) W u y) (h1 : y.one = true) : Reads W [u] [y] :=
  ⟨rfl, fun j u' y' hu hy => by
    cases j with
    | zero => simp at hu hy; subst hu hy; exact ⟨h, h1⟩
    | succ j => simp at hu⟩
theorem reads_append {W : World} {c1 c2 : List Value} {d1 d2 : List D} (h1 : Reads W c1 d1) (h2 : Reads W c2 d2) : Reads W (c1 ++ c2) (d1 ++ d2) := by
  refine ⟨by simp [h1.1, h2.1], fun j u y hu hy => ?_⟩
  by_cases hj : j < c1.length
  · rw [List.getElem?_append_left hj] at hu
    rw [List.getElem?_append_left (by rw [h1.1]; exact hj)] at hy
    exact h1.2 j u y hu hy
  · rw [List.getElem?_append_right (by omega)] at hu
    rw [List.getElem?_append_right (by rw [h1.1]; omega), h1.1] at hy
    exact h2.2 _ u y hu hy
theorem parts_of {P : Program} {W : World} {R : TypeId → List D → Prop} : ∀ (ts : List TypeId) (cs : List Value), cs.length = cellsAll P ts →
    (∀ (i : Nat) t, ts[i]? = some t → ∃ ds, Reads W ((cs.drop (cellsAll P (ts.take i))).take (P.cellsOf t)) ds ∧ R t ds) → ∃ ds, Reads W cs ds ∧ Parts P R ts ds
  | [], cs, hl, h => by
    have : cs = [] := List.eq_nil_of_length_eq_zero (by simpa [cellsAll] using hl)
    subst this
    exact ⟨[], ⟨rfl, fun j u y hu => by simp at hu⟩, rfl⟩
  | t :: ts, cs, hl, h => by
    have hl' : cs.length = P.cellsOf t + cellsAll P ts := by simpa [cellsAll] using hl
    obtain ⟨d1, hr1, hR1⟩ := h 0 t rfl
    have e0 : (cs.drop (cellsAll P ((t :: ts).take 0))).take (P.cellsOf t) = cs.take (P.cellsOf t) := by simp [cellsAll]
    rw [e0] at hr1
    obtain ⟨d2, hr2, hR2⟩ := parts_of (P := P) (R := R) ts (cs.drop (P.cellsOf t)) (by simp [hl']) (fun i t' ht' => by
      obtain ⟨ds, k1, k2⟩ := h (i + 1) t' (by simpa using ht')
      refine ⟨ds, ?_, k2⟩
      rw [List.drop_drop]
      have : cellsAll P ((t :: ts).take (i + 1)) = P.cellsOf t + cellsAll P (ts.take i) := by simp [cellsAll]
      rw [this] at k1; exact k1)
    have hd1 : d1.length = P.cellsOf t := by rw [hr1.1]; simp; omega
    refine ⟨d1 ++ d2, ?_, ?_⟩
    · have := reads_append hr1 hr2
      rwa [List.take_append_drop] at this
    · refine ⟨by simp; omega, ?_, ?_⟩
      · rw [List.take_left' hd1]; exact hR1
      · rw [List.drop_left' hd1]; exact hR2
theorem offs_at {P : Program} : ∀ (fs : List Field) (o : Nat), offs P o fs = true → ∀ (i : Nat) f, fs[i]? = some f → f.offset = o + cellsAll P ((fs.map (·.type)).take i)
  | [], o, h, i, f, hf => by simp at hf
  | g :: fs, o, h, i, f, hf => by
    simp only [offs, Bool.and_eq_true, beq_iff_eq] at h
    cases i with
    | zero => simp at hf; subst hf; simp [cellsAll, h.1]
    | succ i =>
      have := offs_at fs _ h.2 i f (by simpa using hf)
      rw [this]
      simp [cellsAll]; omega
theorem typed_head {P : Program} {k : Nat} {t : TypeId} {ds : List D} (h : Typed P k t ds) (hg : good P k t = true) (hr : rowT P t ≠ some true) : ∃ y, ds = [y] ∧ y.cells = [y] := by
  cases k with
  | zero => exact h.elim
  | succ k =>
    simp only [Typed] at h
    split at h
    · obtain ⟨b, rfl⟩ := h; exact ⟨_, rfl, rfl⟩
    · obtain ⟨m, rfl, _⟩ := h; exact ⟨_, rfl, rfl⟩
    · obtain ⟨s, rfl, _⟩ := h; exact ⟨_, rfl, rfl⟩
    · obtain ⟨xs, rfl, _⟩ := h; exact ⟨_, rfl, rfl⟩
    · rename_i fs hu; exact absurd (by simp [rowT, hu]) hr
    · rename_i n e hu; exact absurd (by simp [rowT, hu]) hr
    · exact h.elim
theorem cells_get {W : World} {base n : Nat} {a : Addr} {cs : List Value} (h : W.cells? base a n = some cs) : cs.length = n ∧ ∀ (j : Nat), j < n → W.cell? (a.add j) = cs[j]? := by
  unfold World.cells? at h
  split at h
  · refine ⟨by simpa using mapM_some_length h, fun j hj => ?_⟩
    exact mapM_some_get h j j (by simp [hj])
  · cases h
theorem trod_typed {H : Type} {enc : TypeId × Value → H} {P : Program} {W : World} {base : Nat} {spare : Nat → Bool} {held : Bool} : ∀ (k n : Nat) (t : TypeId) (cs : List Value) (x : DataW H × List MemPlace), good P k t = true → DataW.trod enc P W base spare held n t cs = some x → ∃ ds, Reads W cs ds ∧ Typed P k t ds
  | 0, n, t, cs, x, hg, h => by simp [good] at hg
  | k + 1, 0, t, cs, x, hg, h => by simp [DataW.trod] at h
  | k + 1, n + 1, t, cs, x, hg, h => by
    have ih := trod_typed (enc := enc) (P := P) (W := W) (base := base) (spare := spare) (held := held) k n
    simp only [good] at hg
    split at hg
    · rename_i hu
      unfold DataW.trod at h
      rw [hu] at h
      split at h <;> simp_all
      rename_i b
      exact ⟨[.val (.bool b)], reads_one (.val _ rfl) rfl, by simp [Typed, hu]⟩
    · rename_i q hu
      unfold DataW.trod at h
      rw [hu] at h
      split at h <;> simp_all
      rename_i k1 k2 m heq
      exact ⟨[.val (.int k1 m)], reads_one (.val _ rfl) rfl, by simp [Typed, hu]; exact h.1.2⟩
    · rename_i hu
      unfold DataW.trod at h
      rw [hu] at h
      split at h <;> simp_all
      rename_i s
      exact ⟨[.val (.string s)], reads_one (.val _ rfl) rfl, by simp [Typed, hu]; exact h.1⟩
    · rename_i e hu
      simp only [Bool.and_eq_true, decide_eq_true_eq] at hg
      obtain ⟨hg1, hg2⟩ := hg
      unfold DataW.trod at h
      rw [hu] at h
      split at h <;> simp_all
      · rename_i e' heq
        exact ⟨[.sl false []], reads_one (Rep.sl false none 0 0 [] ⟨0, 0, none⟩ (by simp) (by simp) (by simp) (by simp) (by simp) (by simp) (by simp)) rfl, by simp [Typed, hu]⟩
      · rename_i e' a len cap heq
        obtain ⟨⟨hb, hle, hcm⟩, h⟩ := h
        obtain ⟨elems, hel, _⟩ := Option.bind_eq_some_iff.1 h
        have each : ∀ i, i < len → ∃ x : D, x.cells.length = P.cellsOf e' ∧ Typed P k e' x.cells ∧ x = (if rowT P e' = some true then .agg x.cells else x.cells.headD .any) ∧ ∀ (j : Nat) y, x.cells[j]? = some y → ∃ u, W.cell? (a.add (i * P.cellsOf e' + j)) = some u ∧ Rep (fun _ => True) W u y := fun i hi => by
          have hget := mapM_some_get hel i i (by simp [hi])
          have hlen := mapM_some_length hel
          have hil : i < elems.length := by rw [hlen]; simpa using hi
          rw [List.getElem?_eq_getElem hil] at hget
          obtain ⟨c, hc, hct⟩ := Option.bind_eq_some_iff.1 hget
          obtain ⟨hcl, hcell⟩ := cells_get hc
          obtain ⟨ds, hr, ht⟩ := ih e' c elems[i].1 elems[i].2 hg1 hct
          have hcells : ∀ (x : D), x.cells = ds → ∀ (j : Nat) y, x.cells[j]? = some y → ∃ u, W.cell? (a.add (i * P.cellsOf e' + j)) = some u ∧ Rep (fun _ => True) W u y := fun x hx j y hy => by
            rw [hx] at hy
            have hj : j < c.length := by rw [← hr.1]; exact (List.getElem?_eq_some_iff.1 hy).1
            refine ⟨c[j], ?_, (hr.2 j _ y (List.getElem?_eq_getElem hj) hy).1⟩
            rw [← add_add, hcell j (by omega), List.getElem?_eq_getElem hj]
          by_cases hrow : rowT P e' = some true
          · exact ⟨.agg ds, by show ds.length = _; rw [hr.1, hcl], ht, by rw [if_pos hrow]; rfl, hcells _ rfl⟩
          · obtain ⟨y, rfl, hy⟩ := typed_head ht hg1 hrow
            exact ⟨y, by rw [hy, hr.1, hcl], by rw [hy]; exact ht, by rw [if_neg hrow, hy]; rfl, hcells _ hy⟩
        obtain ⟨f, hf⟩ : ∃ f : Nat → D, ∀ i, i < len → (f i).cells.length = P.cellsOf e' ∧ Typed P k e' (f i).cells ∧ f i = (if rowT P e' = some true then .agg (f i).cells else (f i).cells.headD .any) ∧ ∀ (j : Nat) y, (f i).cells[j]? = some y → ∃ u, W.cell? (a.add (i * P.cellsOf e' + j)) = some u ∧ Rep (fun _ => True) W u y :=
          ⟨fun i => open Classical in if h : i < len then Classical.choose (each i h) else .any, fun i hi => by simp only [dif_pos hi]; exact Classical.choose_spec (each i hi)⟩
        have hget : ∀ (i : Nat) x, ((List.range len).map f)[i]? = some x → i < len ∧ x = f i := fun i x hx => by
          simp only [List.getElem?_map, Option.map_eq_some_iff] at hx
          obtain ⟨i', hi', rfl⟩ := hx
          obtain ⟨h1, h2⟩ := List.getElem?_eq_some_iff.1 hi'
          simp at h1 h2
          subst h2; exact ⟨h1, rfl⟩
        have hsl := Rep.sl (ok := fun _ => True) (W := W) false (some a) cap (P.cellsOf e') ((List.range len).map f) a (by simpa using hle) (by simp; unfold maxLen at hcm; omega) (by simp) (by simp) (fun i x hx => by
            obtain ⟨hi, rfl⟩ := hget i x hx; exact (hf i hi).1) (fun i j x y hx hy => by
            obtain ⟨hi, rfl⟩ := hget i x hx
            obtain ⟨u, hu', _⟩ := (hf i hi).2.2.2 j y hy
            exact ⟨trivial, by rw [hu']; rfl⟩) (fun i j x y u hx hy hu' => by
            obtain ⟨hi, rfl⟩ := hget i x hx
            obtain ⟨u', hu2, hr⟩ := (hf i hi).2.2.2 j y hy
            rw [hu2] at hu'; injection hu' with hu'; subst hu'; exact hr)
        simp only [List.length_map, List.length_range] at hsl
        refine ⟨[.sl false ((List.range len).map f)], reads_one hsl rfl, ?_⟩
        simp only [Typed, hu]
        refine ⟨_, rfl, fun x hx => ?_⟩
        obtain ⟨i, hi, rfl⟩ := List.mem_map.1 hx
        have := hf i (by simpa using hi)
        exact ⟨this.2.1, this.2.2.1⟩
    · rename_i fs' hu
      simp only [Bool.and_eq_true, beq_iff_eq, List.all_eq_true] at hg
      obtain ⟨⟨hg1, hg2⟩, hg3⟩ := hg
      simp only [DataW.trod, hu] at h
      split at h
      case isFalse => cases h
      rename_i hl
      obtain ⟨xs, hxs, _⟩ := Option.map_eq_some_iff.1 h
      rw [hg3] at hl
      have hp := parts_of (P := P) (W := W) (R := Typed P k) (fs'.toList.map (·.type)) cs hl (fun i t' ht' => by
        simp only [List.getElem?_map, Option.map_eq_some_iff] at ht'
        obtain ⟨fd, hfd, rfl⟩ := ht'
        have hget := mapM_some_get hxs i fd hfd
        have hlen := mapM_some_length hxs
        have hil : i < xs.length := by rw [hlen]; exact (List.getElem?_eq_some_iff.1 hfd).1
        rw [List.getElem?_eq_getElem hil] at hget
        have hoff := offs_at _ _ hg2 i fd hfd
        rw [Nat.zero_add] at hoff
        rw [hoff] at hget
        exact ih fd.type _ xs[i] (hg1 fd (by simpa using List.mem_of_getElem? hfd)) hget)
      obtain ⟨ds, h1, h2⟩ := hp
      exact ⟨ds, h1, by simp only [Typed, hu]; exact h2⟩
    · rename_i m e hu
      simp only [Bool.and_eq_true, beq_iff_eq] at hg
      simp only [DataW.trod, hu] at h
      split at h
      case isFalse => cases h
      rename_i hl
      obtain ⟨xs, hxs, _⟩ := Option.map_eq_some_iff.1 h
      rw [hg.2] at hl
      have hp := parts_of (P := P) (W := W) (R := Typed P k) (List.replicate m e) cs (by rw [hl]; simp [cellsAll]) (fun i t' ht' => by
        rw [List.getElem?_replicate] at ht'
        split at ht'
        · rename_i hi
          injection ht' with ht'; subst ht'
          have hget := mapM_some_get hxs i i (by simp [hi])
          have hlen := mapM_some_length hxs
          have hil : i < xs.length := by rw [hlen]; simpa using hi
          rw [List.getElem?_eq_getElem hil] at hget
          have e1 : cellsAll P ((List.replicate m e).take i) = i * P.cellsOf e := by
            rw [List.take_replicate, Nat.min_eq_left (by omega)]; simp [cellsAll]
          rw [e1]
          exact ih e _ xs[i] hg.1 hget
        · cases ht')
      obtain ⟨ds, h1, h2⟩ := hp
      exact ⟨ds, h1, by simp only [Typed, hu]; exact h2⟩
    · cases hg
end Go.Proofs.YtijebgceopddmaaDoor.Ax
end
section
set_option linter.unusedVariables false
set_option linter.unusedSimpArgs false
namespace Go.Proofs.YtijebgceopddmaaDoor.Ax
open Go.RowKit Go.ChangeShapes Go.WideShapes Go.ChangeAt Go.Proofs.YtijebgceopddmaaDoor.Gf
theorem Spec.run {P : Program} {Γ : World → Prop} {f : FuncId} {ds : List D} {r : T} (h : Spec P Γ f (ds.map T.d) r) {W : World} (hG : Γ W) (vs : List Value) (hl : vs.length = ds.length) (hargs : ∀ (i : Nat) v x, vs[i]? = some v → ds[i]? = some x → Rep (fun _ => True) W v x) :
    Calls P f vs.toArray W fun e W' => ∃ v, e = .returned v ∧ RepR (fun _ => True) W' v r ∧ Below W.heap.size W W' := by
  obtain ⟨_, ds', h2, h3⟩ := h
  have hid : ∀ l : List D, (l.map T.d).map toD = l := fun l => by rw [List.map_map]; exact List.map_id l
  have e : ds' = ds := by
    have := congrArg (List.map toD) h2
    rw [hid, hid] at this
    exact this.symm
  subst e
  refine (h3 (fun _ => True) W vs hG hl hargs).mono fun e W' hh => ?_
  obtain ⟨v, rfl, hv, hb⟩ := hh
  refine ⟨v, rfl, ?_, hb⟩
  cases r with
  | d x => exact Rep.mono (fun k _ _ => trivial) hv
  | tup ts => obtain ⟨vs', k1, k2, k3⟩ := hv; exact ⟨vs', k1, k2, fun i u y hu hy => (k3 i u y hu hy).mono fun k _ _ => trivial⟩
  | ptr i off => exact hv.elim
  | eptr x => exact hv.elim
def BytesL (xs : List Int) : Prop := ∀ n, n ∈ xs → 0 ≤ n ∧ n < 256
def BytesG (m : List (List Int)) : Prop := ∀ r, r ∈ m → BytesL r
theorem wf_u8 {n : Int} (h : (Lit.int .u8 n).wf = true) : 0 ≤ n ∧ n < 256 := by
  simp only [Lit.wf, Bool.and_eq_true, decide_eq_true_eq] at h
  have h1 : IntKind.u8.min = 0 := rfl
  have h2 : IntKind.u8.max = 255 := rfl
  omega
section
variable {P : Program} {k : Nat}
theorem typed_row {t e : TypeId} (ht : P.underlying t = some (.slice e)) (he : P.underlying e = some (.int .u8)) {ds : List D} (h : Typed P (k + 2) t ds) : ∃ xs, ds = [rowD .u8 xs] ∧ BytesL xs := by
  simp only [Typed, ht, he] at h
  obtain ⟨ys, rfl, hy⟩ := h
  have hall : ∀ y, y ∈ ys → ∃ n, y = iD .u8 n ∧ 0 ≤ n ∧ n < 256 := fun y hm => by
    obtain ⟨⟨n, hn, hw⟩, he'⟩ := hy y hm
    refine ⟨n, ?_, wf_u8 hw⟩
    rw [if_neg (by simp [rowT, he]), hn] at he'
    exact he'
  have : ∀ ys : List D, (∀ y, y ∈ ys → ∃ n, y = iD .u8 n ∧ 0 ≤ n ∧ n < 256) → ∃ xs : List Int, ys = xs.map (iD .u8) ∧ BytesL xs := fun ys => by
    induction ys with
    | nil => intro _; exact ⟨[], rfl, fun n hn => by simp at hn⟩
    | cons y ys ih =>
      intro hh
      obtain ⟨n, rfl, hn⟩ := hh y (by simp)
      obtain ⟨xs, rfl, hx⟩ := ih fun z hz => hh z (by simp [hz])
      exact ⟨n :: xs, rfl, fun q hq => by
        rcases List.mem_cons.1 hq with rfl | hq
        · exact hn
        · exact hx q hq⟩
  obtain ⟨xs, rfl, hb⟩ := this ys hall
  exact ⟨xs, rfl, hb⟩
theorem typed_grid {t e q : TypeId} (ht : P.underlying t = some (.slice e)) (he : P.underlying e = some (.slice q)) (hq : P.underlying q = some (.int .u8)) {ds : List D} (h : Typed P (k + 3) t ds) : ∃ m, ds = [gridD .u8 m] ∧ BytesG m := by
  have h' : ∃ xs, ds = [.sl false xs] ∧ ∀ x, x ∈ xs → Typed P (k + 2) e x.cells ∧ x = (if rowT P e = some true then .agg x.cells else x.cells.headD .any) := by
    rw [Typed] at h
    simp only [ht] at h
    exact h
  obtain ⟨ys, rfl, hy⟩ := h'
  have hall : ∀ y, y ∈ ys → ∃ r, y = rowD .u8 r ∧ BytesL r := fun y hm => by
    obtain ⟨h1, h2⟩ := hy y hm
    obtain ⟨r, hr, hb⟩ := typed_row he hq h1
    refine ⟨r, ?_, hb⟩
    rw [if_neg (by simp [rowT, he]), hr] at h2
    exact h2
  have : ∀ ys : List D, (∀ y, y ∈ ys → ∃ r, y = rowD .u8 r ∧ BytesL r) → ∃ m : List (List Int), ys = m.map (rowD .u8) ∧ BytesG m := fun ys => by
    induction ys with
    | nil => intro _; exact ⟨[], rfl, fun n hn => by simp at hn⟩
    | cons y ys ih =>
      intro hh
      obtain ⟨r, rfl, hr⟩ := hh y (by simp)
      obtain ⟨m, rfl, hm⟩ := ih fun z hz => hh z (by simp [hz])
      exact ⟨r :: m, rfl, fun q hq => by
        rcases List.mem_cons.1 hq with rfl | hq
        · exact hr
        · exact hm q hq⟩
  obtain ⟨m, rfl, hb⟩ := this ys hall
  exact ⟨m, rfl, hb⟩
end
theorem own : ownKnob Tryd.prog.godebug = none := by kernel_rfl
theorem laidOut : laidOutB Tryd.prog = true := by kernel_rfl
theorem gHigh : Tryd.prog.globalNamed "quietus/gf.high" = some 0 := by kernel_rfl
abbrev laid : List (String × DataW Unit) := [("quietus/gf.high", Rows.laid_quietus_gf_high)]
theorem door_met (os : Os) (args : Array Value) : laidMetH Tryd.prog laid ((World.doorLaid Tryd.prog 400 os).forCall (fun _ _ => 0) ⟨#[], args, []⟩).memory :=
  laidMetH_of_parts3 (fuel := 8) (laidMet_of_run' 8 (by kernel_rfl) (by kernel_rfl)) (by kernel_rfl) (by kernel_rfl)
theorem tHigh : (Tryd.prog.globals[0]?).map (·.type) = some 87 := by kernel_rfl
theorem of_laid {W : World} (h : laidMetH Tryd.prog laid W) : HighIn W := by
  rw [MakeChecks.laidMetH_plain _ _ _ (by kernel_rfl)] at h
  obtain ⟨ps, ⟨g0, t0, cs0, f0, p0, q0, hg0, ht0, hv0, hd0, _⟩, _⟩ := h
  obtain rfl := Option.some.inj (gHigh.symm.trans hg0)
  obtain rfl := Option.some.inj (tHigh.symm.trans ht0)
  obtain ⟨xs, m1, rfl, hx1, hlen, hn3, hel⟩ := DataW.trod_array Tryd.underlying87 hd0
  have c5 : Tryd.prog.cellsOf 5 = 1 := by kernel_rfl
  simp only [Prod.mk.injEq] at hx1
  have hxs : xs.map (·.1) = (highL.map fun n => (DataW.lit (Lit.int .u8 n) : DataW Unit)) := by
    have := hx1.1
    simp only [Rows.laid_quietus_gf_high, DataW.agg.injEq] at this
    exact this.symm
  intro j hj
  have h1 := hel j hj
  rw [c5, Nat.mul_one] at h1
  have hjx : j < xs.length := by omega
  rw [List.getElem?_eq_getElem hjx] at h1
  obtain ⟨k, e1, e2, _⟩ := DataW.trod_int Tryd.underlying5 h1
  have h3 : (xs.map (·.1))[j]? = some (DataW.lit (Lit.int .u8 k)) := by
    rw [List.getElem?_map, List.getElem?_eq_getElem hjx, e2]; rfl
  rw [hxs, List.getElem?_map] at h3
  have hjl : j < highL.length := hj
  rw [List.getElem?_eq_getElem hjl] at h3
  simp only [Option.map_some, Option.some.injEq, DataW.lit.injEq, Lit.int.injEq] at h3
  have hk : k = highL.getD j 0 := by rw [List.getD_eq_getElem?_getD, List.getElem?_eq_getElem hjl]; exact h3.2.symm
  rw [World.var?_cell hg0 hv0 j, ← hk]
  have h4 : ((cs0.toList.drop j).take 1)[0]? = some (.int .u8 k) := by rw [e1]; rfl
  simpa using h4
end Go.Proofs.YtijebgceopddmaaDoor.Ax
end
section
set_option linter.unusedVariables false
set_option linter.unusedSimpArgs false
namespace Go.Proofs.YtijebgceopddmaaDoor.Ax
open Go.RowKit Go.Proofs.YtijebgceopddmaaDoorW.PrintWords Go.Proofs.YtijebgceopddmaaDoor.Gf Go.Proofs.YtijebgceopddmaaDoor.Pa Go.Proofs.YtijebgceopddmaaDoor.Fn QMat
section
variable {k : IntKind} {x y : Int}
theorem neqT (h : x ≠ y) : intOp .neq k x y = some (.bool true) := by simp [intOp, h]
theorem neqF (h : x = y) : intOp .neq k x y = some (.bool false) := by simp [intOp, h]
theorem eqlT (h : x = y) : intOp .eql k x y = some (.bool true) := by simp [intOp, h]
theorem eqlF (h : x ≠ y) : intOp .eql k x y = some (.bool false) := by simp [intOp, h]
end
theorem byteL_of {r : List Int} (h : BytesL r) : ByteL r := fun j => by
  by_cases hj : j < r.length
  · rw [List.getD_eq_getElem?_getD, List.getElem?_eq_getElem hj]; exact h _ (List.getElem_mem hj)
  · rw [List.getD_eq_getElem?_getD, List.getElem?_eq_none (by omega)]; exact byte_zero
theorem bytes_of {m : List (List Int)} (h : BytesG m) : Bytes m := fun i j => by
  have hr : BytesL (m.getD i []) := by
    by_cases hi : i < m.length
    · have e : m.getD i [] = m[i] := by rw [List.getD_eq_getElem?_getD, List.getElem?_eq_getElem hi]; rfl
      rw [e]; exact h _ (List.getElem_mem hi)
    · have e : m.getD i [] = [] := by rw [List.getD_eq_getElem?_getD, List.getElem?_eq_none (by omega)]; rfl
      rw [e]; intro n hn; simp at hn
  exact byteL_of hr j
theorem ev_get {α : Type} {f : Nat → Option α} {r : α} (h : Fn.Ev f r) : ∃ k, f k = some r := by obtain ⟨K, hK⟩ := h; exact ⟨K, hK K (Nat.le_refl _)⟩
end Go.Proofs.YtijebgceopddmaaDoor.Ax
end
section
set_option linter.unusedVariables false
set_option linter.unusedSimpArgs false
namespace Go.Proofs.YtijebgceopddmaaDoor.Ax
open Go.RowKit Go.Proofs.YtijebgceopddmaaDoorW.PrintWords Go.Proofs.YtijebgceopddmaaDoor.Gf Go.Proofs.YtijebgceopddmaaDoor.Pa Go.Proofs.YtijebgceopddmaaDoor.Fn QMat QLin
theorem rank_congr {n m r : Nat} {M K : Mat QGf.B} (h : HasRank n m M r) (e : ∀ k, k < m → ∀ c, M k c = K k c) : HasRank n m K r := by
  obtain ⟨p, R, hR, hs⟩ := h
  exact ⟨p, R, hR, fun v => ⟨fun hv => (hs v).1 (InSpan.congr (fun k hk c => (e k hk c).symm) hv), fun hv => InSpan.congr e ((hs v).2 hv)⟩⟩
theorem fits_le {m : Grid} {n : Nat} (h : fits m n = true) : m.length ≤ n ∧ ∀ r, r ∈ m → r.length ≤ n := by
  unfold fits at h
  rw [Bool.and_eq_true, decide_eq_true_eq, List.all_eq_true] at h
  exact ⟨h.1, fun r hr => by simpa using h.2 r hr⟩
theorem cols_le_of {m : Grid} {n : Nat} (h : ∀ r, r ∈ m → r.length ≤ n) : cols m ≤ n := by
  unfold cols
  cases m with
  | nil => simp
  | cons r m => exact h r (by simp)
theorem getD_take {m : Grid} {i k : Nat} (hk : k < i) : (m.take i).getD k [] = m.getD k [] := by
  rw [List.getD_eq_getElem?_getD, List.getD_eq_getElem?_getD, List.getElem?_take_of_lt hk]
theorem fn_take {m : Grid} {i k : Nat} (hk : k < i) (c : Nat) : fn (m.take i) k c = fn m k c := by
  show fb (el (m.take i) k c) = fb (el m k c)
  unfold el; rw [getD_take hk]
theorem valid_take {m : Grid} (vm : Valid m) (i : Nat) : Valid (m.take i) := by
  rcases Nat.eq_zero_or_pos i with h | h
  · subst h; exact ⟨by simp, by simp, by simp⟩
  · refine ⟨by have := vm.1; rw [List.length_take]; omega, fun r hr => vm.2.1 r (List.mem_of_mem_take hr), fun r hr => ?_⟩
    have : cols (m.take i) = cols m := by unfold cols; rw [getD_take h]
    rw [this]; exact vm.2.2 r (List.mem_of_mem_take hr)
theorem shape_take {m : Grid} {h n i : Nat} (sm : Shape m h n) (hi : i ≤ h) : Shape (m.take i) i n := by
  refine ⟨by rw [List.length_take, sm.rows]; omega, fun k hk => ?_⟩
  rw [getD_take hk]; exact sm.cols k (by omega)
theorem bytesG_take {m : Grid} (h : BytesG m) (i : Nat) : BytesG (m.take i) := fun r hr => h r (List.mem_of_mem_take hr)
theorem bytesG_app {m : Grid} {r : List Int} (h : BytesG m) (hr : BytesL r) : BytesG (m ++ [r]) := fun x hx => by
  rcases List.mem_append.1 hx with hx | hx
  · exact h x hx
  · rw [List.mem_singleton] at hx; subst hx; exact hr
theorem getD_app_lt {m : Grid} {r : List Int} {k : Nat} (hk : k < m.length) : (m ++ [r]).getD k [] = m.getD k [] := by
  rw [List.getD_eq_getElem?_getD, List.getD_eq_getElem?_getD, List.getElem?_append_left hk]
theorem getD_app_at {m : Grid} {r : List Int} : (m ++ [r]).getD m.length [] = r := by
  rw [List.getD_eq_getElem?_getD]; simp
theorem cols_app {m : Grid} {r : List Int} (h : 0 < m.length) : cols (m ++ [r]) = cols m := by unfold cols; rw [getD_app_lt h]
theorem valid_app {m : Grid} {r : List Int} (vm : Valid m) (h0 : 0 < m.length) (hl : m.length < 48) (hr : r.length = cols m) : Valid (m ++ [r]) := by
  have hc := vm.cols_le
  refine ⟨by simp; omega, fun x hx => ?_, fun x hx => ?_⟩
  · rcases List.mem_append.1 hx with hx | hx
    · exact vm.2.1 x hx
    · rw [List.mem_singleton] at hx; subst hx; omega
  · rw [cols_app h0]
    rcases List.mem_append.1 hx with hx | hx
    · exact vm.2.2 x hx
    · rw [List.mem_singleton] at hx; subst hx; exact hr
theorem rank_app {m : Grid} {r : List Int} {n : Nat} (sm : Shape m m.length n) (sa : Shape (m ++ [r]) (m.length + 1) n) (hb : Bytes m) (hb2 : Bytes (m ++ [r])) : rankG (m ++ [r]) = rankG m ↔ InSpan m.length (fn m) (vec r) := by
  refine rank_snoc (rank_of sm hb) (rank_congr (rank_of sa hb2) fun k hk c => ?_)
  by_cases h : k < m.length
  · rw [snoc_lt h]
    show fb (el (m ++ [r]) k c) = fb (el m k c)
    unfold el; rw [getD_app_lt h]
  · obtain rfl : k = m.length := by omega
    rw [snoc_at]
    show fb (el (m ++ [r]) m.length c) = fb (r.getD c 0)
    unfold el; rw [getD_app_at]
theorem rank_next {m : Grid} {h n i : Nat} (sm : Shape m h n) (hb : Bytes m) (hb1 : Bytes (m.take i)) (hb2 : Bytes (m.take (i + 1))) (hi : i < h) (hno : ∀ a : Vec QGf.B, fn m i ≠ comb i a (fn m)) : rankG (m.take (i + 1)) = rankG (m.take i) + 1 := by
  have h1 : HasRank n i (fn m) (rankG (m.take i)) := rank_congr (rank_of (shape_take sm (by omega)) hb1) fun k hk c => fn_take hk c
  have h2 : HasRank n (i + 1) (snoc i (fn m) (fn m i)) (rankG (m.take (i + 1))) := rank_congr (rank_of (shape_take sm (by omega)) hb2) fun k hk c => by
    rw [fn_take hk]
    by_cases e : k < i
    · rw [snoc_lt e]
    · obtain rfl : k = i := by omega
      rw [snoc_at]
  have h3 := rank_snoc_le h1 h2 fun c hc => fn_wide sm i c (.inr hc)
  have h4 : ¬ rankG (m.take (i + 1)) = rankG (m.take i) := fun e => by
    obtain ⟨a, ha⟩ := (rank_snoc h1 h2).1 e
    exact hno a ha
  omega
theorem combR_is {x row : List Int} {m : Grid} (hx : ByteL x) (hb : Bytes m) (hr : ByteL row) (e : vec row = comb m.length (vec x) (fn m)) : combR x m row.length = row := by
  refine row_ext (by simp [combR]) fun j hj => ?_
  have hj' : j < row.length := by simpa [combR] using hj
  unfold combR
  rw [getD_map_range _ hj']
  refine fb_inj (byte_sumI fun t _ => byte_mulI (hx t) (hb t j)) (hr j) ?_
  rw [fb_sumI fun t _ => byte_mulI (hx t) (hb t j)]
  have := congrFun e j
  show _ = vec row j
  rw [this]
  exact sum_congr fun t _ => fb_mulI (hx t) (hb t j)
theorem law_MatrixExpresses (m : List (List Int)) (row : List Int) (hm : BytesG m) (hr : BytesL row) : Spec Tryd.prog HighIn 8 ([gridD .u8 m, rowD .u8 row].map T.d) (.d (.val (.bool true))) := by
  have Bm := bytes_of hm
  have Br := byteL_of hr
  have F : quietusref05_Few.f 1002 m 20 = some (fits m 20) := Few_f (n := 20) (by omega) (by omega)
  have C := Check2_f m (Nat.le_refl 200)
  cases fm : fits m 20 with
  | false => exact p8_1 m row (fm ▸ F)
  | true =>
  rw [fm] at F
  obtain ⟨h20, hrow⟩ := fits_le fm
  by_cases c1 : m.length = 0
  · exact p8_2 m row F (eqlT (by omega))
  by_cases c2 : chk m = 0
  case neg => exact p8_3 m row F (eqlF (by omega)) C (neqT c2)
  by_cases c3 : row.length = cols m
  case neg => exact p8_4 m row F (eqlF (by omega)) C (neqF c2) (Columns_f m) (neqT (by omega))
  have vm := chk_zero.1 c2
  have hc20 := cols_le_of hrow
  have sm := vm.shape
  obtain ⟨k1, E1⟩ := ev_get (Express_ev Bm Br)
  obtain ⟨k2, R1⟩ := ev_get (Rank_valid vm Bm)
  have va := valid_app vm (by omega) (by omega) c3
  have Ba : Bytes (m ++ [row]) := bytes_of (bytesG_app hm hr)
  obtain ⟨k3, R2⟩ := ev_get (Rank_valid va Ba)
  have sa : Shape (m ++ [row]) (m.length + 1) (cols m) := by
    have := va.shape
    rw [cols_app (by omega), List.length_append, List.length_singleton] at this; exact this
  have hra := rank_app sm sa Bm Ba
  unfold ExprE at E1
  rw [if_pos c2, if_neg (by omega), if_neg (by omega)] at E1
  cases he : exprG m row with
  | none =>
    rw [he] at E1
    have hno := express_none sm Bm Br c3 he
    have hne : rankG (m ++ [row]) ≠ rankG m := fun e => hno (hra.1 e)
    exact p8_5 m row h20 F (eqlF (by omega)) C (neqF c2) (Columns_f m) (neqF (by omega)) E1 R1 R2 (neqF rfl) (neqF rfl) (neqT (by omega)) (neqF rfl) (eqlF (by omega)) (eqlF (by omega)) (neqT (by omega)) (eqlT rfl)
  | some x =>
    rw [he] at E1
    obtain ⟨hl, Bx, hv, hp⟩ := express_some sm Bm Br c3 he
    have hreq : rankG (m ++ [row]) = rankG m := hra.2 ⟨vec x, hv⟩
    have hcomb := combR_is Bx Bm Br hv
    have Co : quietusref05_Combine.f 2300 x m (row.length : Nat) = some (combR x m row.length) := Combine_f Bx Bm (by omega) (fun t ht => by rw [sm.cols t ht]; omega) (by omega) (by omega) (Nat.le_refl _)
    have S1 : quietusref05_SameRow.f 200 (combR x m row.length) row = some true := by
      rw [SameRow_f (K := 100) (by rw [hcomb]; omega) (by omega) (by omega), decide_eq_true hcomb]
    refine p8_6 m row h20 hl F (eqlF (by omega)) C (neqF c2) (Columns_f m) (neqF (by omega)) E1 R1 R2 (neqF rfl) (neqF rfl) (neqF rfl) (eqlT rfl) (eqlT (by omega)) (neqF rfl) (neqF (by omega)) Co S1 (fun i hi h0 => ?_) (fun i hi h0 => ?_)
    · obtain ⟨q1, Q1⟩ := ev_get (Rank_valid (valid_take vm i) (bytes_of (bytesG_take hm i)))
      obtain ⟨q2, Q2⟩ := ev_get (Rank_valid (valid_take vm (i + 1)) (bytes_of (bytesG_take hm (i + 1))))
      exact ⟨_, _, q1, _, _, q2, Q1, Q2, neqF rfl, neqF rfl, neqF h0⟩
    · obtain ⟨q1, Q1⟩ := ev_get (Rank_valid (valid_take vm i) (bytes_of (bytesG_take hm i)))
      obtain ⟨q2, Q2⟩ := ev_get (Rank_valid (valid_take vm (i + 1)) (bytes_of (bytesG_take hm (i + 1))))
      have hn := rank_next sm Bm (bytes_of (bytesG_take hm i)) (bytes_of (bytesG_take hm (i + 1))) (by omega) (hp i (by omega) h0)
      have hle := (rank_le (shape_take sm (show i ≤ m.length by omega)) (bytes_of (bytesG_take hm i))).1
      exact ⟨_, _, q1, _, _, q2, ((rankG (m.take i) + 1 : Nat) : Int), Q1, Q2, neqF rfl, neqF rfl, neqT h0, addI (by omega) (by omega) (by omega), neqF (by omega)⟩
end Go.Proofs.YtijebgceopddmaaDoor.Ax
end
