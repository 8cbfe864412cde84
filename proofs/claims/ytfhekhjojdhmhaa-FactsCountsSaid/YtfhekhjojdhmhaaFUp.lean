/- slices.Clone, slices.DeleteFunc at facts with the predicate of facts.Upto; facts.Upto and ref.Upto. -/
import Derived.Test.YtfhekhjojdhmhaaFAddR
import Derived.Test.YtfhekhjojdhmhaaFValM
import Derived.Lib.SliceRun
import Derived.WalkKit
import Derived.WalkSpells
import Derived.WalkLawsBesides
import Derived.Deep.LoopGhost
import Derived.Deep.QuietTactic
import Derived.BigQuiet
import Derived.StillTailTactics
import Derived.Lib.Hide
import Derived.Outline
import Derived.Lib.QuietBelow
namespace Go.Proofs.Ytfhekhjojdhmhaa
open Go.RowKit

/-- The cells of fact m in a block. -/
def CurF (cur : Array Value) (m : Nat) (f : Fact) : Prop := ∀ j v, (encF f)[j]? = some v → cur[m * 8 + j]? = some v
theorem CurF.at8 {w : World} {g : Nat} {cur : Array Value} {t : TypeId} {m : Nat} {f : Fact} (h : CurF cur m f) (hb : Box w g cur t) : At8 w g (m * 8) f := by
  have k : ∀ j v, (encF f)[j]? = some v → w.cell? ⟨g, m * 8 + j, none⟩ = some v := fun j v hv => (hb.cell _).trans (h j v hv)
  exact ⟨k 0 _ rfl, k 1 _ rfl, k 2 _ rfl, k 3 _ rfl, k 4 _ rfl, k 5 _ rfl, k 6 _ rfl, k 7 _ rfl⟩
theorem flat_take {cur : Array Value} {L : List Fact} (h : ∀ m f, L[m]? = some f → CurF cur m f) (_hs : L.length * 8 ≤ cur.size) : cur.toList.take (L.length * 8) = L.flatMap encF := by
  apply List.ext_getElem?
  intro q
  by_cases hq : q < L.length * 8
  · rw [List.getElem?_take, if_pos hq, Array.getElem?_toList]
    have hm : q / 8 < L.length := by omega
    have e : q / 8 * 8 + q % 8 = q := by omega
    have hj : q % 8 < 8 := Nat.mod_lt _ (by decide)
    have h1 := flat_get encF_len L (q / 8) L[q / 8] (List.getElem?_eq_getElem hm) (q % 8) hj
    rw [e] at h1
    rw [h1]
    have h2 : (encF L[q / 8])[q % 8]? = some ((encF L[q / 8])[q % 8]'(by rw [encF_len]; exact hj)) := List.getElem?_eq_getElem _
    have h3 := h (q / 8) L[q / 8] (List.getElem?_eq_getElem hm) (q % 8) _ h2
    rw [e] at h3
    rw [h3, h2]
  · rw [List.getElem?_eq_none (by rw [List.length_take]; omega), List.getElem?_eq_none (by rw [flat_len encF_len]; omega)]
theorem cur_of {cur : Array Value} {l : List Fact} (h : cur.toList.take (l.length * 8) = l.flatMap encF) (m : Nat) (f : Fact) (hf : l[m]? = some f) : CurF cur m f := by
  intro j v hv
  have hj : j < 8 := (List.getElem?_eq_some_iff.1 hv).1
  have hm := (List.getElem?_eq_some_iff.1 hf).1
  have h1 := flat_get encF_len l m f hf j hj
  rw [← h, List.getElem?_take, if_pos (by omega), Array.getElem?_toList, hv] at h1
  exact h1
theorem box_setCells {b : Nat} {t : TypeId} : ∀ (vs : List Value) (o : Nat) (w : World) (cs : Array Value), Box w b cs t → ∃ cs', Box (w.setCells b o vs) b cs' t ∧ cs'.size = cs.size ∧ ∀ q, q < o → cs'[q]? = cs[q]?
  | [], _, _, cs, h => ⟨cs, h, rfl, fun _ _ => rfl⟩
  | v :: r, o, w, cs, h => by
    obtain ⟨cs', h1, h2, h3⟩ := box_setCells r (o + 1) _ _ (h.set o v)
    exact ⟨cs', h1, by rw [h2]; simp, fun q hq => by rw [h3 q (by omega), Array.getElem?_setIfInBounds_ne (by omega)]⟩
abbrev zero8 : Value := .agg #[.int .i64 0, .int .i64 0, .int .i64 0, .int .i64 0, .int .i64 0, .int .i64 0, .int .i64 0, .int .i64 0]
def zerosF (n : Nat) : List Value := (Builtin.zeroCells zero8.cells n).toList
theorem zerosF_len (n : Nat) : (zerosF n).length = n * 8 := by unfold zerosF; rw [Array.length_toList, size_zeroCells]; rfl
theorem zerosF_one (n : Nat) : ∀ v ∈ zerosF n, v.oneCell' = true := by
  intro v hv
  unfold zerosF Builtin.zeroCells at hv
  simp only [Value.cells, Array.toList_map, List.mem_map] at hv
  obtain ⟨i, _, rfl⟩ := hv
  have h8 : i % 8 = 0 ∨ i % 8 = 1 ∨ i % 8 = 2 ∨ i % 8 = 3 ∨ i % 8 = 4 ∨ i % 8 = 5 ∨ i % 8 = 6 ∨ i % 8 = 7 := by omega
  show ((#[iv 0, iv 0, iv 0, iv 0, iv 0, iv 0, iv 0, iv 0] : Array Value)[i % 8]!).oneCell' = true
  rcases h8 with h | h | h | h | h | h | h | h <;> rw [h] <;> rfl
theorem run_clear_facts (w : World) (ty : TypeId) (b o n c : Nat) (hn : 0 < n) (hc : ∀ j, j < n * 8 → (w.cell? ⟨b, o + j, none⟩).isSome = true) (hf : ∀ j, j < n * 8 → w.frozen? ⟨b, o + j, none⟩ = false) :
    (Builtin.clear_ #[22] ty #[.slice (some ⟨b, o, none⟩) n c]).run Try.prog w = .ok (.tuple #[]) (w.setCells b o (zerosF n)) := by
  have hst := run_storeCells_cells (P := Try.prog) b o (zerosF n) 0 w (by rw [zerosF_len]; simpa using hc) (by rw [zerosF_len]; simpa using hf) (zerosF_one n)
  simp only [Nat.add_zero] at hst
  unfold zerosF at hst ⊢
  obtain ⟨m, rfl⟩ : ∃ m, n = m + 1 := ⟨n - 1, by omega⟩
  simp [Builtin.clear_, run_underlying Try.underlying22, Try.zeroValue28, hst]

set_option maxRecDepth 10000 in
set_option maxHeartbeats 2000000 in
theorem clone_any (a0 : Option Addr) (n0 c0 : Nat) (l : List Fact) (w : World) (h0 : SL encF 8 w a0 n0 c0 l) (hn : n0 ≤ 1000000) :
    Calls Try.prog 47 #[.slice a0 n0 c0] w (RetSL encF 8 w 28 l) := by
  have hm0 := h0.mx
  have hc0 := h0.cap
  have hl0 := Lib.hid h0.len
  have heq := fun (w : World) => Lib.run_eql_slice_nil w 22 28 a0 n0 c0 0 0 Try.underlying22
  obtain ⟨i28, hi28, hz280, hz281, hz282⟩ := info8
  have hm1 : c0 ≤ maxLen := hm0
  unfold maxLen at hm0
  cases a0 with
  | none =>
    have hn0 : n0 = 0 := by
      rcases Nat.eq_zero_or_pos n0 with h | h
      · exact h
      · obtain ⟨b, o, e, _⟩ := h0.at' h; cases e
    subst hn0
    have hl : l = [] := List.eq_nil_of_length_eq_zero hl0.out
    subst hl
    simp only [Option.isNone_none] at heq
    go_enter Try.func47, Try.ntmps47
    go_wp2_with fail
    go_ret
    exact ⟨_, rfl, OwnSL.nil _ _ _ _ _, Below.refl _ _⟩
  | some ad =>
    simp only [Option.isNone_some] at heq
    go_enter Try.func47, Try.ntmps47
    go_wp2_with (at_builtin; refine wpList_append_any rfl _ _ 22 rfl w.heap.size 28 i28 _ 8 64 Try.underlying22 hi28 hz280 hz281 hz282 rfl (by decide) (.slice (some ⟨w.heap.size, 0, none⟩) 0 0) 0 [] (World.ownsRow_made w #[] 0 (Nat.le_refl _) (by simp [maxLen]) rfl) rfl (some ad) n0 c0 (l.flatMap encF) rfl (fun h => by cases h) (by rw [flat_len encF_len, hl0.out]) (fun a ha => (h0.below ((Below.refl _ _).alloc (Nat.le_refl _) _)).flat encF_len (by decide) a ha (fun _ => trivial)) (flat_one _) (by unfold maxLen; omega) (by omega) (by simp) ?_; intro v' w5 hown' hgrow hfr)
    go_ret
    refine ⟨v', rfl, ?_, ((Below.refl _ _).alloc (Nat.le_refl _) _).grown hgrow (by simp) (fun k e => by simp [Value.ownBlock] at e; omega)⟩
    rw [Nat.zero_add, List.nil_append, ← hl0.out] at hown'
    exact hown'

theorem upto1_any (f : Fact) (kb : Nat) (known : Int) (W : World) (hk : W.cell? ⟨kb, 0, none⟩ = some (.int .i64 known)) : Calls Try.prog 48 #[factV f, .pointer (some ⟨kb, 0, none⟩)] W fun e w' => RetB W (.bool (decide (f.kn > known))) e w' := by
  have hb : Below W.heap.size W (W.alloc (.cells #[.int .i64 f.kd, .int .i64 f.sb, .int .i64 f.ob, .int .i64 f.val, .int .i64 f.vf, .int .i64 f.vt, .int .i64 f.kn, .int .i64 f.no] 28)) := (Below.refl _ _).alloc (Nat.le_refl _) _
  have hk2 : (W.alloc (.cells #[.int .i64 f.kd, .int .i64 f.sb, .int .i64 f.ob, .int .i64 f.val, .int .i64 f.vf, .int .i64 f.vt, .int .i64 f.kn, .int .i64 f.no] 28)).cell? ⟨kb, 0, none⟩ = some (.int .i64 known) := (hb.cell (p := ⟨kb, 0, none⟩) (World.block_lt_of_cell? W _ hk)).trans hk
  go_enter Try.func48, Try.ntmps48
  go_wp2_with fail
  go_ret
  exact ⟨ret_bool rfl, hb⟩
/-- What stays. -/
def stay (known : Int) (f : Fact) : Bool := decide (f.kn ≤ known)
theorem stay_not (known : Int) (f : Fact) : stay known f = !decide (f.kn > known) := by unfold stay; rw [Bool.eq_iff_iff]; simp
/-- The row while facts are struck: the first i stay, those from j on are as they were. -/
structure DelR (l : List Fact) (known : Int) (g cap i j : Nat) (wr : World) : Prop where
  cur : ∃ cs, Box wr g cs 28 ∧ cs.size = cap * 8 ∧ (∀ m f, ((l.take j).filter (stay known))[m]? = some f → CurF cs m f) ∧ ∀ m f, j ≤ m → l[m]? = some f → CurF cs m f
  i : ((l.take j).filter (stay known)).length = i
theorem DelR.below {l : List Fact} {known : Int} {g cap i j : Nat} {w w' : World} (h : DelR l known g cap i j w) (hb : Below w.heap.size w w') : DelR l known g cap i j w' := ⟨let ⟨cs, a, b⟩ := h.cur; ⟨cs, a.below hb, b⟩, h.i⟩
theorem DelR.strike {l : List Fact} {known : Int} {g cap i j : Nat} {w : World} {x : Fact} (h : DelR l known g cap i j w) (hx : l[j]? = some x) (hs : stay known x = false) : DelR l known g cap i (j + 1) w := by
  obtain ⟨cs, a, b, c, d⟩ := h.cur
  have e : (l.take (j + 1)).filter (stay known) = (l.take j).filter (stay known) := by rw [take_filter hx, hs]; simp
  exact ⟨⟨cs, a, b, by rw [e]; exact c, fun m f hm hf => d m f (by omega) hf⟩, by rw [e]; exact h.i⟩
theorem curF_put8 {cs : Array Value} {x : Fact} {i m : Nat} {f : Fact} (h : CurF cs m f) (hne : m ≠ i) : CurF (put8 cs (i * 8) x) m f := fun j v hv => by
  have hj : j < 8 := (List.getElem?_eq_some_iff.1 hv).1
  rw [put8_out _ _ _ _ (by omega)]; exact h j v hv
theorem DelR.keep {l : List Fact} {known : Int} {g cap i j : Nat} {w : World} {x : Fact} (h : DelR l known g cap i j w) (hx : l[j]? = some x) (hs : stay known x = true) (hij : i < j) (hc : j < cap) : DelR l known g cap (i + 1) (j + 1) (((((((((w.setCell ⟨g, i * 8, none⟩ (.int .i64 x.kd)).setCell ⟨g, i * 8 + 1, none⟩ (.int .i64 x.sb)).setCell ⟨g, i * 8 + 2, none⟩ (.int .i64 x.ob)).setCell ⟨g, i * 8 + 3, none⟩ (.int .i64 x.val)).setCell ⟨g, i * 8 + 4, none⟩ (.int .i64 x.vf)).setCell ⟨g, i * 8 + 5, none⟩ (.int .i64 x.vt)).setCell ⟨g, i * 8 + 6, none⟩ (.int .i64 x.kn)).setCell ⟨g, i * 8 + 7, none⟩ (.int .i64 x.no))) := by
  obtain ⟨cs, a, b, c, d⟩ := h.cur
  have e : (l.take (j + 1)).filter (stay known) = (l.take j).filter (stay known) ++ [x] := by rw [take_filter hx, if_pos hs]
  refine ⟨⟨_, box_put8 (o := i * 8) a x, by rw [put8_size]; exact b, fun m f hf => ?_, fun m f hm hf => curF_put8 (d m f (by omega) hf) (by omega)⟩, by rw [e, List.length_append, h.i]; rfl⟩
  rw [e] at hf
  by_cases hm : m < i
  · rw [List.getElem?_append_left (by rw [h.i]; exact hm)] at hf
    exact curF_put8 (c m f hf) (by omega)
  · have hm2 := (List.getElem?_eq_some_iff.1 hf).1
    rw [List.length_append, h.i] at hm2
    have : m = i := by simp at hm2; omega
    subst this
    rw [List.getElem?_append_right (by rw [h.i]; exact Nat.le_refl _), h.i] at hf
    simp at hf
    subst hf
    exact fun jj v hv => put8_in cs _ x (by omega) jj v hv
theorem heap_S8o {w : World} {g o k : Nat} {x : Fact} (hk : k ≠ g) : (((((((((w.setCell ⟨g, o, none⟩ (.int .i64 x.kd)).setCell ⟨g, o + 1, none⟩ (.int .i64 x.sb)).setCell ⟨g, o + 2, none⟩ (.int .i64 x.ob)).setCell ⟨g, o + 3, none⟩ (.int .i64 x.val)).setCell ⟨g, o + 4, none⟩ (.int .i64 x.vf)).setCell ⟨g, o + 5, none⟩ (.int .i64 x.vt)).setCell ⟨g, o + 6, none⟩ (.int .i64 x.kn)).setCell ⟨g, o + 7, none⟩ (.int .i64 x.no))).heap[k]? = w.heap[k]? := heap_set8o w g o x k hk
theorem idx_filter {l : List Fact} {known : Int} {k : Nat} {x : Fact} (hx : l[k]? = some x) (hp : decide (x.kn > known) = true) (hn : noneUpto l (fun f => decide (f.kn > known)) k) : (l.take (k + 1)).filter (stay known) = l.take k := by
  rw [take_filter hx, stay_not, hp]
  simp only [Bool.not_true, Bool.false_eq_true, if_false, List.append_nil]
  rw [List.filter_eq_self]
  intro f hf
  have h2 : decide (f.kn > known) = false := hn f hf
  rw [stay_not, h2]; rfl
theorem idx_none {l : List Fact} {known : Int} (h : ∀ x ∈ l, decide (x.kn > known) = false) : l.filter (stay known) = l := by
  rw [List.filter_eq_self]; intro f hf; rw [stay_not, h f hf]; rfl
end Go.Proofs.Ytfhekhjojdhmhaa
