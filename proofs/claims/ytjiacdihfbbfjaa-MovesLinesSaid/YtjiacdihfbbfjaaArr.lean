/- A block of ints under a list's name; contract of law14.permutation; what grid returns. -/
import Derived.Test.YtjiacdihfbbfjaaLFew
import Derived.Test.YtjiacdihfbbfjaaLitM
import Derived.Test.YtjiacdihfbbfjaaGrpM
import Derived.WalkKit
import Derived.WalkSpells
import Derived.WalkLawsBesides
import Derived.Deep.LoopGhost
import Derived.Deep.QuietTactic
import Derived.BigQuiet
import Derived.StillTailTactics
import Derived.Lib.Hide
import Derived.Outline
import Derived.Lib.QuietBelow
namespace Go.Proofs.Ytjiacdihfbbfjaa
open Go.RowKit

def arrL (l : List Int) : Array Value := (l.map (Value.int .i64)).toArray
theorem arrL_size (l : List Int) : (arrL l).size = l.length := by unfold arrL; simp
theorem arrL_get (l : List Int) {i : Nat} (h : i < l.length) : (arrL l)[i]? = some (.int .i64 (l[i]?.getD 0)) := by unfold arrL; simp [h]
theorem arrL_set (l : List Int) (i : Nat) (x : Int) : (arrL l).setIfInBounds i (.int .i64 x) = arrL (l.set i x) := by unfold arrL; simp
theorem arrL_made (n : Nat) : madeCells #[.int .i64 0] n = arrL (List.replicate n 0) := by
  apply Array.ext
  · rw [arrL_size, size_madeCells]; simp
  · intro i h1 h2
    simp [madeCells, arrL, Nat.mod_one]
theorem arrL_ints {w : World} {B n : Nat} {l : List Int} (h : Box w B (arrL l) 3) (hl : l.length = n) (hn : n ≤ 1000000) : Ints w (some ⟨B, 0, none⟩) n n l := by
  subst hl; exact ints_lit l h rfl hn
theorem set_getD (l : List Int) {i j : Nat} (x : Int) (h : i < l.length) : (l.set i x)[j]?.getD 0 = if i = j then x else l[j]?.getD 0 := by
  by_cases e : i = j
  · subst e; rw [List.getElem?_set_self h]; simp
  · rw [List.getElem?_set_ne e, if_neg e]
theorem gridL_cases (s w h : Int) (holes : List Int) : (∃ g, gridL s w h holes = g ∧ makeL s w h holes = some g ∧ Valid g ∧ checkErr g = 0 ∧ movesOut g = movesL g) ∨ (gridL s w h holes = zeroGrid ∧ checkErr zeroGrid = 130 ∧ movesOut zeroGrid = []) := by
  cases hm : makeL s w h holes with
  | none => exact .inr ⟨by unfold gridL; rw [hm]; rfl, ex8.1, ex8.2⟩
  | some g =>
    obtain ⟨hv, _⟩ := valid_make hm
    have he : checkErr g = 0 := by
      rcases checkErr_cases g with ⟨h, _⟩ | ⟨_, h⟩
      · exact h
      · exact absurd hv h
    exact .inl ⟨g, by unfold gridL; rw [hm]; rfl, rfl, hv, he, by unfold movesOut; rw [if_pos he]⟩

set_option maxRecDepth 20000 in
set_option maxHeartbeats 1000000 in
theorem perm_any (a : Option Addr) (c N : Nat) (p : List Int) (W : World) (h : Ints W a N c p) (hp : PermL N p) (hN : N ≤ 256) :
    Calls Try.prog 31 #[.slice a N c, .int .i64 N] W fun e w' => e = .returned (.bool true) ∧ Below W.heap.size W w' := by
  have hmk := make_bools N hN
  have hcp := h.cap
  have hmx := h.mx
  unfold maxLen at hmx
  have hal : Below W.heap.size W (W.alloc (.cells (flags N []) 4)) := (Below.refl _ _).alloc (Nat.le_refl _) _
  have hbx := Box.new W (flags N []) 4
  have hlt0 := hbx.lt
  have HP := Lib.hid hp
  clear hp
  go_enter Try.func31, Try.ntmps31
  go_wp2_with fail
  go_loopw [12] (fun c wr => ∃ k : Nat, k ≤ N ∧ c = .int .i64 k ∧ Box wr W.heap.size (flags N (p.take k)) 4 ∧ Below W.heap.size W wr) (fun c _ => N - (intOf c).toNat)
  case atStart => exact ⟨0, by omega, rfl, by simpa using hbx, hal⟩
  case round =>
    clear hbx hal
    obtain ⟨k, hk, rfl, hP, hBz⟩ := hrel
    by_cases hlt : k < N
    · obtain ⟨b0, o0, rfl, hb0⟩ := h.at' (by omega)
      have e0 := (hBz.cell (p := ⟨b0, o0 + k, none⟩) hb0).trans (h.cell _ _ rfl k hlt)
      obtain ⟨X, hX, eX⟩ := HP.out.at hlt
      have hn : inL (p.take k) (X : Int) = false := by
        unfold inL
        rw [Bool.eq_false_iff]
        intro hc
        obtain ⟨j, hj, e⟩ := List.mem_take_iff_getElem.1 (List.contains_iff_mem.1 hc)
        have hj := Nat.lt_min.1 hj
        have := HP.out.inj (i := j) (j := k) (by omega) hlt (by rw [eX, ← e, List.getElem?_eq_getElem (by omega)]; rfl)
        omega
      have HT : Hid (p.take (k + 1) = p.take k ++ [(X : Int)]) := Lib.hid (by rw [take_getD p k (by rw [HP.out.len]; exact hlt), eX])
      rw [eX] at e0
      have d1 := hP.cell X
      rw [flags_get N _ hX, hn] at d1
      have f1 := hP.frozen X
      have t1 : (X : Int) < (N : Int) := by omega
      have hP2 := hP.set X (.bool true)
      rw [flags_set N _ hX, ← HT.out] at hP2
      have hB2 := hBz.setCell (p := ⟨W.heap.size, X, none⟩) (Nat.le_refl _) (.bool true)
      clear eX hn hP
      go_wp2_with fail
      go_roundw
      case rel => exact ⟨k + 1, by omega, by go_num, hP2, hB2⟩
      case measure => simp [intOf]; omega
    · obtain rfl : k = N := by omega
      go_wp2_with fail
      go_ret
      exact ⟨by simp, hBz⟩
end Go.Proofs.Ytjiacdihfbbfjaa
