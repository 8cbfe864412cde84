/- Contracts of slices.IndexFunc, ContainsFunc at []int with a quiet predicate, and of the closure of moves.Swaps. -/
import Derived.Test.YtjiacdihfbbfjaaRefD
import Derived.Shelf.Abstract
import Derived.WalkKit
import Derived.WalkSpells
import Derived.WalkLawsBesides
import Derived.Deep.LoopGhost
import Derived.Deep.QuietTactic
import Derived.BigQuiet
import Derived.StillTailTactics
import Derived.Lib.Hide
import Derived.Outline
import Derived.Lib.QuietBelow
import Derived.RegionTactic
import Derived.BigRegion
import Derived.ChangeAlike
import Derived.Laws.MakeOwn
import Derived.Test.YtjiacdihfbbfjaaGridM
namespace Go.Proofs.Ytjiacdihfbbfjaa
open Go.RowKit

/-- A function value that answers P at the elements of l, in worlds that have but drawn. -/
def PredAt (w : World) (f : FuncId) (caps : Array Value) (l : List Int) (P : Int → Bool) : Prop := ∀ x ∈ l, ∀ q, Calls Try.prog f (#[.int .i64 x] ++ caps) (w.drewN q) fun e w' => e = .returned (.bool (P x)) ∧ ∃ k, w' = (w.drewN q).drewN k
def findUpto (l : List Int) (P : Int → Bool) (k : Nat) : Prop := ∀ x ∈ l.take k, P x = false
theorem find_step {l : List Int} {P : Int → Bool} {k : Nat} (hk : k < l.length) (h : findUpto l P k) (h2 : P (l[k]?.getD 0) = false) : findUpto l P (k + 1) := by
  intro x hx
  rw [take_getD l k hk] at hx
  rcases List.mem_append.1 hx with hx | hx
  · exact h x hx
  · rw [List.mem_singleton.1 hx]; exact h2
def RetIdx (w : World) (l : List Int) (P : Int → Bool) (e : Ending) (w' : World) : Prop := ∃ z : Int, e = .returned (.int .i64 z) ∧ -1 ≤ z ∧ z ≤ 1000000 ∧ decide (0 ≤ z) = l.any P ∧ ∃ q, w' = w.drewN q

set_option maxRecDepth 10000 in
set_option maxHeartbeats 1000000 in
theorem indexFunc_any (f : FuncId) (caps : Array Value) (a0 : Option Addr) (n0 c0 : Nat) (l : List Int) (P : Int → Bool) (w : World) (hen : Enters Try.prog f) (h0 : Ints w a0 n0 c0 l) (hP : PredAt w f caps l P) (hn : n0 ≤ 1000000) :
    Calls Try.prog 95 #[.slice a0 n0 c0, .func (.func f) #[] caps] w (RetIdx w l P) := by
  have hm0 := h0.mx
  have hc0 := h0.cap
  have hl0 := Lib.hid h0.len
  unfold maxLen at hm0
  have HP := Lib.hid hP
  clear hP
  unfold Enters at hen
  go_enter Try.func95, Try.ntmps95
  go_wp2_with fail
  go_loopw [8] (fun i wr => ∃ k : Nat, k ≤ n0 ∧ i = .int .i64 k ∧ Hid (findUpto l P k) ∧ ∃ q, wr = w.drewN q) (fun i _ => n0 - (intOf i).toNat)
  case atStart => exact ⟨0, by omega, rfl, Lib.hid (by intro x hx; simp at hx), 0, rfl⟩
  case round =>
    obtain ⟨k, hk, rfl, HM, q, rfl⟩ := hrel
    by_cases hlt : k < n0
    · obtain ⟨b0, o0, rfl, hb0⟩ := h0.at' (by omega)
      have e0 := h0.cell _ _ rfl k hlt
      have hmem := getD_mem l k (by rw [hl0.out]; exact hlt)
      cases hd : P (l[k]?.getD 0)
      · have HD := Lib.hid hd
        have hc := HP.out _ hmem q
        rw [hd] at hc
        have HC := Lib.hid hc
        clear hc hd
        go_wp2_with (refine HC.out.mono ?_; rintro e w' ⟨rfl, q2, rfl⟩)
        go_roundw
        case rel => exact ⟨k + 1, by omega, by go_num, Lib.hid (find_step (by rw [hl0.out]; omega) HM.out HD.out), (by first | exact ⟨_, rfl⟩ | exact ⟨_, World.drewN_drewN⟩ | exact ⟨0, rfl⟩ | exact ⟨_, by simp only [World.drewN_drewN]; rfl⟩)⟩
        case measure => simp [intOf]; omega
      · have HD := Lib.hid hd
        have hc := HP.out _ hmem q
        rw [hd] at hc
        have HC := Lib.hid hc
        clear hc hd
        go_wp2_with (refine HC.out.mono ?_; rintro e w' ⟨rfl, q2, rfl⟩)
        go_ret
        refine ⟨(k : Int), rfl, by omega, by omega, ?_, (by first | exact ⟨_, rfl⟩ | exact ⟨_, World.drewN_drewN⟩ | exact ⟨0, rfl⟩ | exact ⟨_, by simp only [World.drewN_drewN]; rfl⟩)⟩
        rw [show decide (0 ≤ (k : Int)) = true by simp]
        exact (List.any_eq_true.2 ⟨_, hmem, HD.out⟩).symm
    · obtain rfl : n0 = k := by omega
      go_wp2_with fail
      go_ret
      refine ⟨-1, rfl, by omega, by omega, ?_, (by first | exact ⟨_, rfl⟩ | exact ⟨_, World.drewN_drewN⟩ | exact ⟨0, rfl⟩ | exact ⟨_, by simp only [World.drewN_drewN]; rfl⟩)⟩
      rw [show decide (0 ≤ (-1 : Int)) = false by decide]
      symm
      rw [List.any_eq_false]
      intro x hx
      have := HM.out x (by rw [List.take_of_length_le (by rw [hl0.out]; omega)]; exact hx)
      simp [this]

set_option maxRecDepth 10000 in
set_option maxHeartbeats 1000000 in
theorem containsFunc_any (f : FuncId) (caps : Array Value) (a0 : Option Addr) (n0 c0 : Nat) (l : List Int) (P : Int → Bool) (w : World) (hen : Enters Try.prog f) (h0 : Ints w a0 n0 c0 l) (hP : PredAt w f caps l P) (hn : n0 ≤ 1000000) :
    Calls Try.prog 64 #[.slice a0 n0 c0, .func (.func f) #[] caps] w fun e w' => e = .returned (.bool (l.any P)) ∧ ∃ q, w' = w.drewN q := by
  have HI := Lib.hid (indexFunc_any f caps a0 n0 c0 l P w hen h0 hP hn)
  clear hP hen
  go_enter Try.func64, Try.ntmps64
  go_wp2_with (go_at_call 95; refine HI.out.mono ?_; rintro e w' ⟨z, rfl, hz1, hz2, hz3, q, rfl⟩; have HZ := Lib.hid hz3; clear hz3)
  all_goals
    go_ret
    refine ⟨ret_bool ?_, (by first | exact ⟨_, rfl⟩ | exact ⟨_, World.drewN_drewN⟩ | exact ⟨0, rfl⟩ | exact ⟨_, by simp only [World.drewN_drewN]; rfl⟩)⟩
    rw [← HZ.out]
end Go.Proofs.Ytjiacdihfbbfjaa

/- The sets of moves.Swaps in memory; the closure that asks them. -/
namespace Go.Proofs.Ytjiacdihfbbfjaa
open Go.RowKit

def flags (n : Nat) (l : List Int) : Array Value := ((List.range n).map fun (i : Nat) => Value.bool (inL l (i : Int))).toArray
theorem flags_size (n : Nat) (l : List Int) : (flags n l).size = n := by unfold flags; simp
theorem flags_get (n : Nat) (l : List Int) {i : Nat} (h : i < n) : (flags n l)[i]? = some (.bool (inL l (i : Int))) := by unfold flags; simp [h]
theorem flags_nil (n : Nat) : flags n [] = madeCells #[.bool false] n := by
  apply Array.ext
  · rw [flags_size, size_madeCells]
  · intro i h1 h2
    rw [flags_size] at h1
    have := flags_get n [] h1
    rw [Array.getElem?_eq_getElem (by rw [flags_size]; exact h1)] at this
    injection this with this
    rw [this]
    simp [madeCells, inL, Nat.mod_one]
theorem flags_set (n : Nat) (l : List Int) {c : Nat} (h : c < n) : (flags n l).setIfInBounds c (.bool true) = flags n (l ++ [(c : Int)]) := by
  apply Array.ext_getElem?
  intro i
  by_cases hi : i < n
  · rw [flags_get n _ hi]
    by_cases hc : c = i
    · subst hc
      rw [Array.getElem?_setIfInBounds_self_of_lt (by rw [flags_size]; exact h)]
      simp [inL]
    · rw [Array.getElem?_setIfInBounds_ne hc, flags_get n _ hi]
      simp [inL]; omega
  · rw [Array.getElem?_eq_none (by simp [flags_size]; omega), Array.getElem?_eq_none (by rw [flags_size]; omega)]
/-- Block S is a row of m slices of bools; the first k of them are the sets of the first lists. -/
structure Sets (w : World) (S m n : Nat) (ll : List (List Int)) (k : Nat) : Prop where
  has : ∃ cs, Box w S cs 45 ∧ cs.size = m ∧ ∀ j, j < k → ∃ b, cs[j]? = some (.slice (some ⟨b, 0, none⟩) n n) ∧ Box w b (flags n (ll[j]?.getD [])) 4 ∧ S ≠ b
theorem Sets.kept {w w' : World} {S m n : Nat} {ll : List (List Int)} {k : Nat} (h : Sets w S m n ll k) (hk : ∀ q, q < w.heap.size → w'.heap[q]? = w.heap[q]?) : Sets w' S m n ll k := by
  obtain ⟨cs, h1, h2, h3⟩ := h.has
  refine ⟨cs, (hk S h1.lt).trans h1, h2, fun j hj => ?_⟩
  obtain ⟨b, e1, e2, e3⟩ := h3 j hj
  exact ⟨b, e1, (hk b e2.lt).trans e2, e3⟩
theorem Sets.lt {w : World} {S m n : Nat} {ll : List (List Int)} {k : Nat} (h : Sets w S m n ll k) : S < w.heap.size := let ⟨_, h1, _⟩ := h.has; h1.lt
theorem Sets.made (w : World) (cs : Array Value) (m n : Nat) (ll : List (List Int)) (h : cs.size = m) : Sets (w.alloc (.cells cs 45)) w.heap.size m n ll 0 := ⟨cs, Box.new _ _ _, h, fun j hj => absurd hj (by omega)⟩

set_option maxRecDepth 10000 in
set_option maxHeartbeats 1000000 in
theorem swaps1_any (S m n k i bs bi : Nat) (ll : List (List Int)) (c : Int) (w : World) (h : Sets w S m n ll k) (hi : i < k) (hm : k ≤ m) (hs : Box w bs #[.slice (some ⟨S, 0, none⟩) m m] 73) (hb : Box w bi #[.int .i64 i] 3) (hc : 0 ≤ c ∧ c < n) :
    Calls Try.prog 65 #[.int .i64 c, .pointer (some ⟨bs, 0, none⟩), .pointer (some ⟨bi, 0, none⟩)] w fun e w' => e = .returned (.bool (inL (ll[i]?.getD []) c)) ∧ ∃ k, w' = w.drewN k := by
  obtain ⟨cs, h1, h2, h3⟩ := h.has
  obtain ⟨b, e1, e2, e3⟩ := h3 i hi
  obtain ⟨C, rfl⟩ : ∃ C : Nat, c = (C : Int) := ⟨c.toNat, by omega⟩
  have d0 : w.cell? ⟨bs, 0, none⟩ = some (.slice (some ⟨S, 0, none⟩) m m) := by simpa using hs.cell 0
  have d1 : w.cell? ⟨bi, 0, none⟩ = some (.int .i64 i) := by simpa using hb.cell 0
  have d2 : w.cell? ⟨S, i, none⟩ = some (.slice (some ⟨b, 0, none⟩) n n) := by rw [h1.cell]; exact e1
  have d3 : w.cell? ⟨b, C, none⟩ = some (.bool (inL (ll[i]?.getD []) (C : Int))) := by rw [e2.cell]; exact flags_get n _ (by omega)
  have k0 : (i : Int) < (m : Int) := by omega
  clear h1 h2 h3 e1 e2 h hs hb
  go_enter Try.func65, Try.ntmps65
  go_wp2_with fail
  go_ret
  exact ⟨rfl, 0, rfl⟩
end Go.Proofs.Ytjiacdihfbbfjaa

/- Contract of moves.Swaps. -/
namespace Go.Proofs.Ytjiacdihfbbfjaa
open Go.RowKit

theorem info_bool : (Try.prog.info? 4).map (fun i => (i.zero, i.size, i.bytes)) = some (some (.bool false), 1, 1) := by kernel_rfl
theorem info_bools : (Try.prog.info? 45).map (fun i => (i.zero, i.size, i.bytes)) = some (some (.slice none 0 0), 1, 24) := by kernel_rfl
theorem make_bools (N : Nat) (hN : N ≤ 256) (w : World) : (Instr.makeSlice 45 (.int .i64 N) (.int .i64 N)).run Try.prog w = .ok (.slice (some ⟨w.heap.size, 0, none⟩) N N) (w.alloc (.cells (flags N []) 4)) := by
  obtain ⟨ib, hib, hb0, hb1, hb2⟩ := info_parts info_bool
  have h := run_make (P := Try.prog) w 45 4 ib _ Try.underlying45 hib hb0 .i64 .i64 N N (by omega) (by omega) (by rw [hb2]; omega) (by omega)
  simp only [Int.toNat_natCast, hb1, Nat.mul_one] at h
  rw [flags_nil]; exact h
theorem make_sets (m : Nat) (hm : m ≤ 1000) (w : World) : (Instr.makeSlice 73 (.int .i64 m) (.int .i64 m)).run Try.prog w = .ok (.slice (some ⟨w.heap.size, 0, none⟩) m m) (w.alloc (.cells (madeCells #[.slice none 0 0] m) 45)) := by
  obtain ⟨ib, hib, hb0, hb1, hb2⟩ := info_parts info_bools
  have h := run_make (P := Try.prog) w 73 45 ib _ Try.underlying73 hib hb0 .i64 .i64 m m (by omega) (by omega) (by rw [hb2]; omega) (by omega)
  simp only [Int.toNat_natCast, hb1, Nat.mul_one] at h
  exact h
theorem make_ints (N : Nat) (hN : N ≤ 256) (w : World) : (Instr.makeSlice 22 (.int .i64 N) (.int .i64 N)).run Try.prog w = .ok (.slice (some ⟨w.heap.size, 0, none⟩) N N) (w.alloc (.cells (madeCells #[.int .i64 0] N) 3)) := by
  obtain ⟨ib, hib, hb0, hb1, hb2⟩ := info_parts info_int
  have h := run_make (P := Try.prog) w 22 3 ib _ Try.underlying22 hib hb0 .i64 .i64 N N (by omega) (by omega) (by rw [hb2]; omega) (by omega)
  simp only [Int.toNat_natCast, hb1, Nat.mul_one] at h
  exact h

theorem diffL_dup' {l : List Int} {n : Int} {k : Nat} (hk : k < l.length) (h : l[k]?.getD 0 ∈ l.take k) : diffL l n = false := by
  obtain ⟨j, hj, e⟩ := List.mem_take_iff_getElem.1 h
  have hj := Nat.lt_min.1 hj
  exact diffL_dup (j := j) hk (by omega) (by rw [← e, List.getElem?_eq_getElem (by omega)]; rfl)
def swapArr (N : Nat) (a b : List Int) (c : Nat) : Array Value := ((List.range N).map fun (i : Nat) => Value.int .i64 (swapAt a b i c)).toArray
theorem swapArr_size (N : Nat) (a b : List Int) (c : Nat) : (swapArr N a b c).size = N := by unfold swapArr; simp
theorem swapArr_get (N : Nat) (a b : List Int) (c : Nat) {i : Nat} (h : i < N) : (swapArr N a b c)[i]? = some (.int .i64 (swapAt a b i c)) := by unfold swapArr; simp [h]
theorem swapArr_zero {cs : Array Value} {N : Nat} {a b : List Int} (hs : cs.size = N) (h : ∀ i : Nat, i < N → cs[i]? = some (.int .i64 i)) : cs = swapArr N a b 0 := by
  apply Array.ext_getElem?
  intro i
  by_cases hi : i < N
  · rw [h i hi, swapArr_get N a b 0 hi]; rfl
  · rw [Array.getElem?_eq_none (by omega), Array.getElem?_eq_none (by rw [swapArr_size]; omega)]
theorem swapArr_step {N : Nat} {a b : List Int} {c A B : Nat} (hA : a[c]?.getD 0 = (A : Int)) (hB : b[c]?.getD 0 = (B : Int)) :
    ((swapArr N a b c).setIfInBounds A (.int .i64 B)).setIfInBounds B (.int .i64 A) = swapArr N a b (c + 1) := by
  apply Array.ext_getElem?
  intro i
  by_cases hi : i < N
  · rw [swapArr_get N a b (c + 1) hi]
    have hst : swapAt a b i (c + 1) = if (B : Int) = (i : Int) then (A : Int) else if (A : Int) = (i : Int) then (B : Int) else swapAt a b i c := by
      show swapStep a b i (swapAt a b i c) c = _
      unfold swapStep; rw [hA, hB]
    rw [hst]
    by_cases hb : B = i
    · subst hb
      rw [Array.getElem?_setIfInBounds_self_of_lt (by simp [swapArr_size]; omega), if_pos rfl]
    · rw [Array.getElem?_setIfInBounds_ne hb, if_neg (by omega)]
      by_cases ha : A = i
      · subst ha
        rw [Array.getElem?_setIfInBounds_self_of_lt (by rw [swapArr_size]; omega), if_pos rfl]
      · rw [Array.getElem?_setIfInBounds_ne ha, if_neg (by omega), swapArr_get N a b c hi]
  · rw [Array.getElem?_eq_none (by simp [swapArr_size]; omega), Array.getElem?_eq_none (by rw [swapArr_size]; omega)]
theorem swap_ints {w : World} {P N n : Nat} {a b : List Int} (h : Box w P (swapArr N a b n) 3) (hl : a.length = n) (hN : N ≤ 256) : Ints w (some ⟨P, 0, none⟩) N N (swapL N a b) := by
  refine ⟨swapL_len N a b, Nat.le_refl _, by unfold maxLen; omega, fun _ => ⟨P, 0, rfl, h.lt⟩, fun b' o e i hi => ?_⟩
  obtain ⟨rfl, rfl⟩ : P = b' ∧ 0 = o := by simpa using e
  rw [Nat.zero_add, h.cell, swapArr_get N a b n hi]
  unfold swapL
  rw [hl]; simp [hi]
theorem own_type_ne {w : World} {base : Nat} {e t : TypeId} {v : Value} {n : Nat} {xs : List Value} {B : Nat} {cs : Array Value} (h : w.ownsRow base e 1 v n xs) (hb : Box w B cs t) (hne : e ≠ t) : v.ownBlock ≠ some B := by
  intro e1
  rcases h.2 with ⟨rfl, _⟩ | ⟨g, cap, cur, rfl, _, hg, _⟩
  · simp [Value.ownBlock] at e1
  · obtain rfl : g = B := by simpa [Value.ownBlock] using e1
    unfold Box at hb
    rw [hb] at hg
    injection hg with hg
    injection hg with _ h2
    exact hne h2.symm
theorem diff_range {l : List Int} {N : Nat} (h : diffL l N = true) (c : Int) (hc : c ∈ l) : 0 ≤ c ∧ c < (N : Int) := by
  unfold diffL at h
  simp only [Bool.and_eq_true, decide_eq_true_eq] at h
  exact h.1 c hc
theorem diff_nodup {l : List Int} {N : Nat} (h : diffL l N = true) : l.Nodup := by
  unfold diffL at h
  simp only [Bool.and_eq_true, decide_eq_true_eq] at h
  exact h.2
theorem nodup_len : ∀ (N : Nat) (l : List Int), l.Nodup → (∀ x ∈ l, 0 ≤ x ∧ x < (N : Int)) → l.length ≤ N
  | 0, [], _, _ => Nat.le_refl _
  | 0, x :: l, _, h => by have := h x (by simp); omega
  | N + 1, l, hn, h => by
    by_cases hm : (N : Int) ∈ l
    · have h1 := List.length_erase_of_mem hm
      have h2 := nodup_len N (l.erase (N : Int)) (hn.erase _) (fun x hx => by
        have hx' := (List.Nodup.mem_erase_iff hn).1 hx
        have := h x hx'.2
        have := hx'.1
        omega)
      have : 0 < l.length := List.length_pos_of_mem hm
      omega
    · have := nodup_len N l hn (fun x hx => by
        have := h x hx
        have : x ≠ N := fun e => hm (e ▸ hx)
        omega)
      omega
theorem diff_len {l : List Int} {N : Nat} (h : diffL l N = true) : l.length ≤ N := nodup_len N l (diff_nodup h) (fun x hx => diff_range h x hx)
theorem any_apart (a b : List Int) : (b.any fun c => inL a c) = !apartL a b := by
  unfold apartL
  rw [Bool.eq_iff_iff]
  simp only [List.any_eq_true, Bool.not_eq_true', decide_eq_false_iff_not, inL, List.contains_iff_mem]
  constructor
  · rintro ⟨c, h1, h2⟩ h; exact h c h2 h1
  · intro h
    apply Classical.byContradiction
    intro hn
    exact h fun x hx hb => hn ⟨x, hb, hx⟩
set_option maxRecDepth 20000 in
set_option maxHeartbeats 4000000 in
theorem swaps_any (n : Int) (a0 : Option Addr) (m c0 : Nat) (ll : List (List Int)) (w : World) (h0 : Rows w a0 m c0 ll) (hm : m ≤ 1000) :
    Calls Try.prog 28 #[.int .i64 n, .slice a0 m c0] w (RetRowsE w 22 (swapsOut n ll) (swapsErr n ll)) := by
  have hm0 := h0.mx
  have hc0 := h0.cap
  have hl0 := Lib.hid h0.len
  obtain ⟨i22, hi22, hz220, hz221, hz222⟩ := info_parts info_ints
  unfold maxLen at hm0
  by_cases hneg : n < 0
  · have HB := Lib.hid (swapsBad_n (ll := ll) (.inl hneg))
    go_enter Try.func28, Try.ntmps28
    go_wp2_with fail
    go_ret2
    exact retRowsE_bad HB.out (Below.refl _ _)
  by_cases hbig : 256 < n
  · have HB := Lib.hid (swapsBad_n (ll := ll) (.inr hbig))
    go_enter Try.func28, Try.ntmps28
    go_wp2_with fail
    go_ret2
    exact retRowsE_bad HB.out (Below.refl _ _)
  obtain ⟨N, rfl⟩ : ∃ N : Nat, n = (N : Int) := ⟨n.toNat, by omega⟩
  have hN : N ≤ 256 := by omega
  clear hneg hbig
  have tn0 : decide ((N : Int) < 0) = false := by simp
  have tn1 : decide (256 < (N : Int)) = false := by simp; omega
  have hmk := make_sets m hm w
  have hmb := make_bools N hN
  go_enter Try.func28, Try.ntmps28
  go_wp2_with fail
  go_loopw [4, 29] (fun v4 i wr => ∃ k : Nat, k ≤ m ∧ i = .int .i64 k ∧ v4 = .slice none 0 0 ∧ Hid ((ll.take k).all (fun l => diffL l N) = true) ∧ Sets wr w.heap.size m N ll k ∧ Box wr (w.heap.size + 1) #[.slice (some ⟨w.heap.size, 0, none⟩) m m] 73 ∧ Below w.heap.size w wr) (fun _ i _ => m - (intOf i).toNat)
  case atStart => exact ⟨0, by omega, rfl, rfl, Lib.hid (by simp), (Sets.made w _ m N ll (size_madeCells _ _)).kept (fun q hq => Below.heap_alloc _ _ q hq), by simpa using Box.new (w.alloc _) #[.slice (some ⟨w.heap.size, 0, none⟩) m m] 73, (by repeat (first | (with_reducible exact Below.refl _ _) | (with_reducible assumption) | (with_reducible refine below_drewN ?_ _) | ((with_reducible refine Below.setCell ?_ ?_ _); rotate_left; focus (first | (simp; done) | (simp; omega) | omega)) | ((with_reducible refine Below.alloc ?_ ?_ _); rotate_left; focus (first | (simp; done) | (simp; omega) | omega)) | (with_reducible refine Below.drew ?_)))⟩
  case round =>
    obtain ⟨k, hk, rfl, rfl, HL, hS, hx, hB⟩ := hrel
    have hsz := hB.size
    have hxl := hx.lt
    have hsl : w.heap.size < wr.heap.size := by omega
    by_cases hlt : k < m
    · obtain ⟨b0, o0, rfl, hb0⟩ := h0.at' (by omega)
      obtain ⟨ai, ni, ci, e0', hI0'⟩ := h0.row _ _ rfl k hlt
      have e0 := (hB.cell (p := ⟨b0, o0 + k, none⟩) hb0).trans e0'
      have hI0 := hI0'.below hB
      obtain ⟨cs, s1, s2, s3⟩ := hS.has
      have d0 : wr.cell? ⟨w.heap.size + 1, 0, none⟩ = some (.slice (some ⟨w.heap.size, 0, none⟩) m m) := by simpa using hx.cell 0
      have d1 := s1.cell k
      have f1 := s1.frozen k
      obtain ⟨u, hu⟩ : ∃ u, cs[k]? = some u := ⟨cs[k]'(by omega), by rw [Array.getElem?_eq_getElem]⟩
      rw [hu] at d1
      have k1 : (k : Int) < (m : Int) := by omega
      have S3 := Lib.hid s3
      clear s3 hu
      obtain ⟨wo, rfl⟩ : ∃ wo, wo = wr := ⟨_, rfl⟩
      go_wp2_with fail
      go_region
      obtain ⟨wA, hwA⟩ : ∃ wA, ((wo.setCell ⟨w.heap.size, k, none⟩ (.slice (some ⟨wo.heap.size, 0, none⟩) N N)).alloc (.cells (flags N []) 4)).drew = wA := ⟨_, rfl⟩
      have hSA : Box wA w.heap.size (cs.setIfInBounds k (.slice (some ⟨wo.heap.size, 0, none⟩) N N)) 45 := by rw [← hwA]; exact ((s1.set k _).alloc _).drewN 1
      have hxA : Box wA (w.heap.size + 1) #[.slice (some ⟨w.heap.size, 0, none⟩) m m] 73 := by rw [← hwA]; exact ((hx.setOther _ (by simp)).alloc _).drewN 1
      have hkA : Hid (∀ q, q < wo.heap.size → q ≠ w.heap.size → wA.heap[q]? = wo.heap[q]?) := Lib.hid fun q h1 h2 => by
        rw [← hwA]
        exact (Below.heap_alloc (wo.setCell ⟨w.heap.size, k, none⟩ _) _ q (by simpa using h1)).trans (Below.heap_setCell _ _ _ _ h2)
      have hbA : Box wA wo.heap.size (flags N []) 4 := by rw [← hwA]; exact (by simpa using Box.new (wo.setCell ⟨w.heap.size, k, none⟩ (.slice (some ⟨wo.heap.size, 0, none⟩) N N)) (flags N []) 4 : Box ((wo.setCell ⟨w.heap.size, k, none⟩ (.slice (some ⟨wo.heap.size, 0, none⟩) N N)).alloc (.cells (flags N []) 4)) wo.heap.size (flags N []) 4).drewN 1
      have hBA : Below w.heap.size w wA := by rw [← hwA]; exact ((hB.setCell (p := ⟨w.heap.size, k, none⟩) (Nat.le_refl _) _).alloc (by simpa using hsz) _).drew
      rw [hwA]
      clear hwA d0 d1 f1 hmb hI0 e0
      go_wp2_with fail
      go_loopw [4, 41] (fun v4 i wr => ∃ c : Nat, c ≤ ni ∧ i = .int .i64 c ∧ v4 = .slice none 0 0 ∧ Hid (diffUpto (ll[k]?.getD []) N c) ∧ Box wr wo.heap.size (flags N ((ll[k]?.getD []).take c)) 4 ∧ Below wo.heap.size wA wr ∧ Below w.heap.size w wr) (fun _ i _ => ni - (intOf i).toNat)
      case atStart => exact ⟨0, by omega, rfl, rfl, Lib.hid ⟨by simp, by simp⟩, by simpa using hbA, Below.refl _ _, hBA⟩
      case round =>
        obtain ⟨c, hc, rfl, rfl, HD, hb, hB1, hB2⟩ := hrel
        have hI := hI0'.below hB2
        have hli := hI.len
        have hmi := hI.mx
        have hci := hI.cap
        unfold maxLen at hmi
        have hbl := hb.lt
        by_cases hct : c < ni
        · obtain ⟨b1, o1, rfl, hb1⟩ := hI.at' (by omega)
          have e1 := hI.cell _ _ rfl c hct
          obtain ⟨x, hx1⟩ : ∃ x, (ll[k]?.getD [])[c]?.getD 0 = x := ⟨_, rfl⟩
          have HX := Lib.hid hx1
          rw [hx1] at e1
          have HLI := Lib.hid hli
          clear hx1 hli
          have d0 : wr.cell? ⟨w.heap.size + 1, 0, none⟩ = some (.slice (some ⟨w.heap.size, 0, none⟩) m m) := by
            have : Box wr (w.heap.size + 1) _ _ := (hB1.block _ (by omega)).trans hxA
            simpa using this.cell 0
          have d1 : wr.cell? ⟨w.heap.size, k, none⟩ = some (.slice (some ⟨wo.heap.size, 0, none⟩) N N) := by
            have : Box wr w.heap.size _ _ := (hB1.block _ (by omega)).trans hSA
            rw [this.cell]; exact Array.getElem?_setIfInBounds_self_of_lt (by omega)
          by_cases hx0 : x < 0
          · have t0 : decide (x < 0) = true := by simpa using hx0
            have HB := Lib.hid (swapsBad_row (n := (N : Int)) (by rw [hl0.out]; exact hlt) (diffL_bad (by rw [HLI.out]; exact hct) (.inl (by rw [HX.out]; exact hx0))))
            clear hx0
            go_wp2_with fail
            go_ret2
            exact retRowsE_bad HB.out hB2
          · have t0 : decide (x < 0) = false := by simpa using hx0
            by_cases hxn : (N : Int) ≤ x
            · have HB := Lib.hid (swapsBad_row (n := (N : Int)) (by rw [hl0.out]; exact hlt) (diffL_bad (by rw [HLI.out]; exact hct) (.inr (by rw [HX.out]; exact hxn))))
              go_wp2_with fail
              go_ret2
              exact retRowsE_bad HB.out hB2
            · obtain ⟨X, rfl⟩ : ∃ X : Nat, x = (X : Int) := ⟨x.toNat, by omega⟩
              have d3 : wr.cell? ⟨wo.heap.size, X, none⟩ = some (.bool (inL ((ll[k]?.getD []).take c) (X : Int))) := by rw [hb.cell]; exact flags_get N _ (by omega)
              have f3 := hb.frozen X
              cases hin : inL ((ll[k]?.getD []).take c) (X : Int)
              · rw [hin] at d3
                have HIN := Lib.hid hin
                clear hin
                go_wp2_with fail
                go_roundw
                case rel =>
                  refine ⟨c + 1, by omega, by go_num, rfl, Lib.hid ?_, ?_, hB1.setCell (p := ⟨wo.heap.size, X, none⟩) (Nat.le_refl _) _, hB2.setCell (p := ⟨wo.heap.size, X, none⟩) (by simp; omega) _⟩
                  · refine diff_step (by rw [HLI.out]; exact hct) HD.out (by rw [HX.out]; omega) ?_
                    rw [HX.out]; have := HIN.out; unfold inL at this; simpa using this
                  · have := hb.set X (.bool true)
                    rw [flags_set N _ (by omega)] at this
                    rw [take_getD _ _ (by rw [HLI.out]; exact hct), HX.out]
                    exact this
                case measure => simp [intOf]; omega
              · rw [hin] at d3
                have HB := Lib.hid (swapsBad_row (n := (N : Int)) (by rw [hl0.out]; exact hlt) (diffL_dup' (by rw [HLI.out]; exact hct) (by rw [HX.out]; unfold inL at hin; simpa using hin)))
                clear hin
                go_wp2_with fail
                go_ret2
                exact retRowsE_bad HB.out hB2
        · obtain rfl : ni = c := by omega
          have hok : diffL (ll[k]?.getD []) N = true := diffL_end (by rw [hli]; exact HD.out)
          have HOK := Lib.hid hok
          clear hok
          go_wp2_with fail
          go_roundw
          case rel =>
            refine ⟨k + 1, by omega, by go_num, rfl, Lib.hid (allDiff_step (by rw [hl0.out]; exact hlt) HL.out HOK.out), ⟨_, (hB1.block _ (by omega)).trans hSA, by simp [s2], fun j hj => ?_⟩, (hB1.block _ (by omega)).trans hxA, hB2⟩
            by_cases hjk : j = k
            · subst hjk
              refine ⟨wo.heap.size, Array.getElem?_setIfInBounds_self_of_lt (by omega), ?_, by omega⟩
              have h := hb
              rw [List.take_of_length_le (by omega)] at h; exact h
            · obtain ⟨b', q1, q2, q3⟩ := S3.out j (by omega)
              refine ⟨b', by rw [Array.getElem?_setIfInBounds_ne (by omega)]; exact q1, ?_, q3⟩
              exact ((hB1.block _ q2.lt).trans (hkA.out _ q2.lt (Ne.symm q3))).trans q2
          case measure => simp [intOf]; omega
    · obtain rfl : m = k := by omega
      have hok : swapsBad N ll = false := swapsBad_ok (by omega) (by rw [hl0.out]; exact HL.out)
      have HOK := Lib.hid hok
      clear hok
      have hall : ∀ j, j < m → diffL (ll[j]?.getD []) N = true := fun j hj => by
        have := List.all_eq_true.1 HL.out (ll[j]?.getD []) (by rw [List.take_of_length_le (by rw [hl0.out]; exact Nat.le_refl _), List.getElem?_eq_getElem (by rw [hl0.out]; exact hj)]; exact List.getElem_mem _)
        exact this
      have HAL := Lib.hid hall
      have hmi := make_ints N hN
      have HMI := Lib.hid hmi
      clear hall hmi hmb HL
      obtain ⟨W1, rfl⟩ : ∃ W1, W1 = wr := ⟨_, rfl⟩
      go_wp2_with fail
      go_loopw [4, 71] (fun v i wr => ∃ k : Nat, k ≤ m ∧ i = .int .i64 k ∧ OwnRows wr W1.heap.size 22 v (swapRows N ll k) ∧ Below W1.heap.size W1 wr) (fun _ i _ => m - (intOf i).toNat)
      case atStart => exact ⟨0, by omega, rfl, OwnRows.nil _ _ _, Below.refl _ _⟩
      case round =>
        obtain ⟨k, hk, rfl, hO, hB1⟩ := hrel
        have hs1 := hB1.size
        by_cases hlt : k < m
        · have tk : decide (k < m) = true := by simpa using hlt
          obtain ⟨b0, o0, rfl, hb0⟩ := h0.at' (by omega)
          obtain ⟨ai, ni, ci, e0', hI0'⟩ := h0.row _ _ rfl k hlt
          have e0 := ((hB.on hB1).cell (p := ⟨b0, o0 + k, none⟩) hb0).trans e0'
          have k1 : (k : Int) < (m : Int) := by omega
          obtain ⟨wp, rfl⟩ : ∃ wp, wp = wr := ⟨_, rfl⟩
          go_wp2_with fail
          go_loopw [4, 13] (fun v t' wr => ∃ t : Nat, k + 1 ≤ t ∧ t ≤ m ∧ t' = .int .i64 t ∧ OwnRows wr W1.heap.size 22 v (swapRows N ll k ++ swapRow N ll k (t - (k + 1))) ∧ Box wr wp.heap.size #[.int .i64 k] 3 ∧ Below W1.heap.size W1 wr) (fun _ t' _ => m - (intOf t').toNat)
          case atStart => exact ⟨k + 1, by omega, by omega, by go_num, by simpa [swapRow] using hO.below ((Below.refl _ _).alloc (Nat.le_refl _) _), Box.new _ _ _, hB1.alloc hs1 _⟩
          case round =>
            obtain ⟨t, ht, htm, rfl, hO, hbi, hB2⟩ := hrel
            have hs2 := hB2.size
            have hB3 := hB.on hB2
            have hbil := hbi.lt
            by_cases htl : t < m
            · obtain ⟨aj, nj, cj, e1', hI1'⟩ := h0.row _ _ rfl t htl
              have e1 := (hB3.cell (p := ⟨b0, o0 + t, none⟩) hb0).trans e1'
              have hI0 := hI0'.below hB3
              have hI1 := hI1'.below hB3
              have hm3 := hI0.mx
              have hm4 := hI1.mx
              have hc3 := hI0.cap
              have hc4 := hI1.cap
              have LI := Lib.hid hI0.len
              have LJ := Lib.hid hI1.len
              have LL := rows_len_le (N := N) (c := t - (k + 1)) hl0.out hm hlt (by omega)
              have t1 : (t : Int) < (m : Int) := by omega
              have DA := Lib.hid (HAL.out k hlt)
              have DB := Lib.hid (HAL.out t htl)
              unfold maxLen at hm3 hm4
              by_cases hp : ni = 0
              · have tp : ((ni : Int) == 0) = true := by simp; omega
                have HN := Lib.hid (swapPair_no (n := N) (ll := ll) (i := k) (j := t) (by rw [LI.out]; omega))
                clear hp
                go_wp2_with fail
                go_roundw
                case rel => exact ⟨t + 1, by omega, by omega, by go_num, by rw [swapRow_next ht, HN.out, List.append_nil]; exact hO, hbi, hB2⟩
                case measure => simp [intOf]; omega
              · have tp : ((ni : Int) == 0) = false := by simp; omega
                by_cases hne : ni = nj
                · subst hne
                  have te : ((ni : Int) != (ni : Int)) = false := by simp
                  have hset : Sets wr w.heap.size m N ll m := hS.kept (fun q hq => hB2.block q hq)
                  have hsx : Box wr (w.heap.size + 1) #[.slice (some ⟨w.heap.size, 0, none⟩) m m] 73 := hx.below hB2
                  have hpr : PredAt wr 65 #[.pointer (some ⟨w.heap.size + 1, 0, none⟩), .pointer (some ⟨wp.heap.size, 0, none⟩)] (ll[t]?.getD []) (fun c => inL (ll[k]?.getD []) c) := fun c hcm q => by
                    have hcr := diff_range DB.out c hcm
                    exact swaps1_any w.heap.size m N m k (w.heap.size + 1) wp.heap.size ll c (wr.drewN q) (hset.kept (fun q _ => rfl)) hlt (Nat.le_refl _) (hsx.drewN _) (hbi.drewN _) hcr
                  have hcf := containsFunc_any 65 #[.pointer (some ⟨w.heap.size + 1, 0, none⟩), .pointer (some ⟨wp.heap.size, 0, none⟩)] aj ni cj (ll[t]?.getD []) _ wr (enters_of Try.func65 (by kernel_rfl) rfl) hI1 hpr (by have := diff_len DB.out; rw [LJ.out] at this; omega)
                  rw [any_apart] at hcf
                  clear hpr
                  cases ha : apartL (ll[k]?.getD []) (ll[t]?.getD [])
                  · rw [ha] at hcf
                    have HN := Lib.hid (swapPair_no (n := N) (ll := ll) (i := k) (j := t) (by rw [ha]; simp))
                    have HC := Lib.hid hcf
                    clear hcf ha
                    go_wp2_with (go_at_call 64; refine HC.out.mono ?_; rintro e w' ⟨rfl, q, rfl⟩)
                    go_roundw
                    case rel => exact ⟨t + 1, by omega, by omega, by go_num, by rw [swapRow_next ht, HN.out, List.append_nil]; exact hO.drewN _, hbi.drewN _, below_drewN hB2 _⟩
                    case measure => simp [intOf]; omega
                  · rw [ha] at hcf
                    have HA := Lib.hid ha
                    have HN := Lib.hid (swapPair_yes (n := N) (ll := ll) (i := k) (j := t) ⟨by rw [LI.out]; omega, by rw [LI.out, LJ.out], ha⟩)
                    have HC := Lib.hid hcf
                    have hmk2 := HMI.out wr
                    clear hcf ha
                    go_wp2_with (go_at_call 64; refine HC.out.mono ?_; rintro e w' ⟨rfl, q, rfl⟩; have hmk2 := HMI.out (wr.drewN q))
                    obtain ⟨wv, rfl⟩ : ∃ wv, wv = wr := ⟨_, rfl⟩
                    have hBq := below_drewN hB2 q
                    have hPx := Box.new (wv.drewN q) (madeCells #[.int .i64 0] N) 3
                    obtain ⟨wq, hwq⟩ : ∃ wq, (wv.drewN q).alloc (.cells (madeCells #[.int .i64 0] N) 3) = wq := ⟨_, rfl⟩
                    have hqs : wq.heap.size = wv.heap.size + 1 := by rw [← hwq]; simp
                    have hBn : Below wv.heap.size wv wq := by rw [← hwq]; exact (Below.drewN0 wv q).alloc (Nat.le_refl _) _
                    rw [hwq] at hPx ⊢
                    clear hwq hmk2
                    go_loopw [107] (fun c' wz => ∃ c : Nat, c ≤ N ∧ c' = .int .i64 c ∧ (∃ cs, Box wz wv.heap.size cs 3 ∧ cs.size = N ∧ ∀ i : Nat, i < c → cs[i]? = some (.int .i64 i)) ∧ Below wv.heap.size wv wz) (fun c' _ => N - (intOf c').toNat)
                    case atStart => exact ⟨0, by omega, rfl, ⟨_, hPx, size_madeCells _ _, fun i hi => by omega⟩, hBn⟩
                    case round =>
                      obtain ⟨c, hc, rfl, ⟨cs2, hP, hPs, hPc⟩, hBz⟩ := hrel
                      by_cases hcN : c < N
                      · have d5 := hP.cell c
                        have f5 := hP.frozen c
                        rw [Array.getElem?_eq_getElem (by omega)] at d5
                        have HPC := Lib.hid hPc
                        clear hPc
                        go_wp2_with fail
                        go_roundw
                        case rel =>
                          refine ⟨c + 1, by omega, by go_num, ⟨_, hP.set c _, by simp [hPs], fun i hi => ?_⟩, hBz.setCell (p := ⟨wv.heap.size, c, none⟩) (Nat.le_refl _) _⟩
                          by_cases hic : i = c
                          · subst hic; exact Array.getElem?_setIfInBounds_self_of_lt (by omega)
                          · rw [Array.getElem?_setIfInBounds_ne (by omega)]; exact HPC.out i (by omega)
                        case measure => simp [intOf]; omega
                      · obtain rfl : N = c := by omega
                        have hPa : Box _ wv.heap.size (swapArr N (ll[k]?.getD []) (ll[t]?.getD []) 0) 3 := (swapArr_zero hPs hPc) ▸ hP
                        clear hPc hP
                        obtain ⟨wy, rfl⟩ : ∃ wy, wy = wr := ⟨_, rfl⟩
                        have hBy := hB2.on hBz
                        go_wp2_with fail
                        go_loopw [117] (fun c' wz => ∃ c : Nat, c ≤ ni ∧ c' = .int .i64 c ∧ Box wz wv.heap.size (swapArr N (ll[k]?.getD []) (ll[t]?.getD []) c) 3 ∧ Below wv.heap.size wv wz) (fun c' _ => ni - (intOf c').toNat)
                        case atStart => exact ⟨0, by omega, rfl, hPa, hBz⟩
                        case round =>
                          clear hPa hBz hBy
                          obtain ⟨c, hc, rfl, hP, hBz⟩ := hrel
                          have hzz := hP.lt
                          by_cases hcn : c < ni
                          · obtain ⟨ba, oa, rfl, hba⟩ := hI0.at' (by omega)
                            obtain ⟨bb, ob, rfl, hbb⟩ := hI1.at' (by omega)
                            have ea := (hI0.below hBz).cell _ _ rfl c hcn
                            have eb := (hI1.below hBz).cell _ _ rfl c hcn
                            have hma := getD_mem (ll[k]?.getD []) c (by rw [LI.out]; exact hcn)
                            have hmb := getD_mem (ll[t]?.getD []) c (by rw [LJ.out]; exact hcn)
                            have ra := diff_range DA.out _ hma
                            have rb := diff_range DB.out _ hmb
                            have hnab : Hid ((ll[k]?.getD [])[c]?.getD 0 ≠ (ll[t]?.getD [])[c]?.getD 0) := Lib.hid fun e => by
                              have := HA.out
                              unfold apartL at this
                              rw [decide_eq_true_eq] at this
                              exact this _ hma (e ▸ hmb)
                            obtain ⟨A, hA⟩ : ∃ A : Nat, (ll[k]?.getD [])[c]?.getD 0 = (A : Int) := ⟨((ll[k]?.getD [])[c]?.getD 0).toNat, by omega⟩
                            obtain ⟨B, hB'⟩ : ∃ B : Nat, (ll[t]?.getD [])[c]?.getD 0 = (B : Int) := ⟨((ll[t]?.getD [])[c]?.getD 0).toNat, by omega⟩
                            rw [hA] at ea ra
                            rw [hB'] at eb rb
                            have hAB : A ≠ B := fun e => hnab.out (by rw [hA, hB', e])
                            have HSA := Lib.hid (swapArr_step (N := N) hA hB')
                            clear hma hmb hA hB' hnab
                            have pa := hP.cell A
                            have pb := hP.cell B
                            have fa := hP.frozen A
                            have fb := hP.frozen B
                            rw [Array.getElem?_eq_getElem (by rw [swapArr_size]; omega)] at pa pb
                            have c0 : (c : Int) < (ni : Int) := by omega
                            obtain ⟨wx, rfl⟩ : ∃ wx, wx = wr := ⟨_, rfl⟩
                            go_wp2_with fail
                            go_region
                            go_wp2
                            go_roundw
                            case rel =>
                              have h := ((hP.set A (.int .i64 B)).set B (.int .i64 A)).drewN 1
                              rw [HSA.out] at h
                              exact ⟨c + 1, by omega, by go_num, h, ((hBz.setCell (p := ⟨wv.heap.size, A, none⟩) (Nat.le_refl _) _).setCell (p := ⟨wv.heap.size, B, none⟩) (Nat.le_refl _) _).drew⟩
                            case measure => simp [intOf]; omega
                          · obtain rfl : ni = c := by omega
                            have hPI := swap_ints hP LI.out hN
                            have hO2 := hO.below hBz
                            have hOlt := hO.lt
                            have hBy := hB2.on hBz
                            have hsz2 := hBy.size
                            obtain ⟨us, hus, hE⟩ := hO2
                            clear hP
                            go_wp2_with (at_builtin; refine wpList_append_own2 _ rfl _ _ 28 rfl W1.heap.size 22 i22 (.slice none 0 0) 1 24 Try.underlying28 hi22 hz220 hz221 hz222 rfl (by decide) _ _ _ (hus.alloc _) rfl ⟨_, 0, none⟩ 1 1 [(.slice (some ⟨wv.heap.size, 0, none⟩) N N)] rfl rfl (cell_one_new _ _ _) (by simp [Value.oneCell']) (by unfold maxLen; omega) (by omega) (by first | omega | (simp; omega)) ?_; intro v' w1 hown' hgrow hfr)
                            go_roundw
                            case rel =>
                              refine ⟨t + 1, by omega, by omega, by go_num, ?_, ((hbi.below hBz).alloc _).grown hgrow (own_type_ne hus (hbi.below hBz) (by decide)), (hBy.alloc hsz2 _).grown hgrow (by simp; omega) (fun q e => (hus.lt q e).1)⟩
                              rw [swapRow_next ht, HN.out, ← List.append_assoc]
                              exact OwnRows.push (hE.mono fun _ _ hu => hu.below ((Below.refl _ _).alloc (Nat.le_refl _) _)) hown' hgrow hfr (hPI.below ((Below.refl _ _).alloc (Nat.le_refl _) _)) (fun _ e => by have := (hOlt wv.heap.size e.symm).2; omega)
                            case measure => simp [intOf]; omega
                · have te : ((ni : Int) != (nj : Int)) = true := by simp; omega
                  have HN := Lib.hid (swapPair_no (n := N) (ll := ll) (i := k) (j := t) (by rw [LI.out, LJ.out]; omega))
                  clear hp hne
                  go_wp2_with fail
                  go_roundw
                  case rel => exact ⟨t + 1, by omega, by omega, by go_num, by rw [swapRow_next ht, HN.out, List.append_nil]; exact hO, hbi, hB2⟩
                  case measure => simp [intOf]; omega
            · obtain rfl : m = t := by omega
              go_wp2_with fail
              go_roundw
              case rel => exact ⟨k + 1, by omega, by go_num, by rw [swapRows_succ, hl0.out]; exact hO, hB2⟩
              case measure => simp [intOf]; omega
        · obtain rfl : m = k := by omega
          go_wp2_with fail
          go_ret2
          exact retRowsE_ok HOK.out (by rw [hl0.out]; exact hO.mono (by omega)) (hB.on hB1)
end Go.Proofs.Ytjiacdihfbbfjaa

