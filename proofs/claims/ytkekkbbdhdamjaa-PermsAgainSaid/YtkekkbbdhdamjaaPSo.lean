/- slices.Sort on an own row of ints: the library's contract laid at this seat's numbers. -/
import Derived.Shelf.Sort.Plain
import Derived.Shelf.Slices.In.SortNone
import Derived.Test.YtkekkbbdhdamjaaPSortF
import Derived.WalkKit
import Derived.WalkSpells
import Derived.WalkLawsBesides
import Derived.Deep.LoopGhost
import Derived.Deep.QuietTactic
import Derived.BigQuiet
import Derived.StillTailTactics
import Derived.Lib.Hide
import Derived.Outline
import Derived.Lib.QuietBelow
namespace Go.Proofs.Ytkekkbbdhdamjaa
open Go.RowKit Go.Shelf
def si_n189_ren : Go.Shelf.Ren := ⟨fun | 189 => 38 | 125 => 40 | 257 => 42 | 128 => 51 | 129 => 52 | 294 => 54 | 295 => 55 | 296 => 56 | 297 => 57 | 298 => 58 | 299 => 59 | 216 => 60 | 300 => 61 | 301 => 62 | 328 => 68 | 329 => 64 | 330 => 65 | 331 => 69 | 332 => 70 | 215 => 53 | 343 => 72 | n => n, fun | 28 => 22 | 3 => 3 | 46 => 42 | 0 => 0 | 51 => 70 | 53 => 72 | 4 => 4 | 183 => 64 | 182 => 63 | 131 => 40 | 5 => 5 | 9 => 9 | 218 => 80 | 222 => 84 | 228 => 88 | 229 => 89 | n => n, fun | n => n⟩
theorem si_n189 : Go.Proofs.Lays.n189 Try.prog si_n189_ren := {
  mixed := by kernel_rfl
  f125 := Try.func40.trans (congrArg some (by kernel_rfl))
  f128 := Try.func51.trans (congrArg some (by kernel_rfl))
  f129 := Try.func52.trans (congrArg some (by kernel_rfl))
  f189 := Try.func38.trans (congrArg some (by kernel_rfl))
  f215 := Try.func53.trans (congrArg some (by kernel_rfl))
  f216 := Try.func60.trans (congrArg some (by kernel_rfl))
  f257 := Try.func42.trans (congrArg some (by kernel_rfl))
  f294 := Try.func54.trans (congrArg some (by kernel_rfl))
  f295 := Try.func55.trans (congrArg some (by kernel_rfl))
  f296 := Try.func56.trans (congrArg some (by kernel_rfl))
  f297 := Try.func57.trans (congrArg some (by kernel_rfl))
  f298 := Try.func58.trans (congrArg some (by kernel_rfl))
  f299 := Try.func59.trans (congrArg some (by kernel_rfl))
  f300 := Try.func61.trans (congrArg some (by kernel_rfl))
  f301 := Try.func62.trans (congrArg some (by kernel_rfl))
  f328 := Try.func68.trans (congrArg some (by kernel_rfl))
  f329 := Try.func64.trans (congrArg some (by kernel_rfl))
  f330 := Try.func65.trans (congrArg some (by kernel_rfl))
  f331 := Try.func69.trans (congrArg some (by kernel_rfl))
  f332 := Try.func70.trans (congrArg some (by kernel_rfl))
  f343 := Try.func72.trans (congrArg some (by kernel_rfl))
  t0 := Try.underlying0
  a0 := Try.isAgg0
  z0 := Try.sizeOf0
  v0 := Try.zeroValue0
  t3 := Try.underlying3
  a3 := Try.isAgg3
  z3 := Try.sizeOf3
  v3 := Try.zeroValue3
  t4 := Try.underlying4
  a4 := Try.isAgg4
  z4 := Try.sizeOf4
  v4 := Try.zeroValue4
  t5 := Try.underlying5
  a5 := Try.isAgg5
  z5 := Try.sizeOf5
  v5 := Try.zeroValue5
  t9 := Try.underlying9
  a9 := Try.isAgg9
  z9 := Try.sizeOf9
  v9 := Try.zeroValue9
  t28 := Try.underlying22
  a28 := Try.isAgg22
  z28 := Try.sizeOf22
  v28 := Try.zeroValue22
  t46 := Try.underlying42
  a46 := Try.isAgg42
  z46 := Try.sizeOf42
  v46 := Try.zeroValue42
  t51 := Try.underlying70
  a51 := Try.isAgg70
  z51 := Try.sizeOf70
  v51 := Try.zeroValue70
  t53 := Try.underlying72
  a53 := Try.isAgg72
  z53 := Try.sizeOf72
  v53 := Try.zeroValue72
  t131 := Try.underlying40
  a131 := Try.isAgg40
  z131 := Try.sizeOf40
  v131 := Try.zeroValue40
  t182 := Try.underlying63
  a182 := Try.isAgg63
  z182 := Try.sizeOf63
  v182 := Try.zeroValue63
  t183 := Try.underlying64
  a183 := Try.isAgg64
  z183 := Try.sizeOf64
  v183 := Try.zeroValue64
  t218 := Try.underlying80
  a218 := Try.isAgg80
  z218 := Try.sizeOf80
  v218 := Try.zeroValue80
  t222 := Try.underlying84
  a222 := Try.isAgg84
  z222 := Try.sizeOf84
  v222 := Try.zeroValue84
  t228 := Try.underlying88
  a228 := Try.isAgg88
  z228 := Try.sizeOf88
  v228 := Try.zeroValue88
  t229 := Try.underlying89
  a229 := Try.isAgg89
  z229 := Try.sizeOf89
  v229 := Try.zeroValue89 }
open Go.Sort Go.RowKit in
theorem si_sort (blk off cap : Nat) (zs : List Int) (w : World) (hH : Holds (Value.int .i64) w blk off zs.toArray) (hblk : blk < w.heap.size) (hsz : zs.length < 4611686018427387904) :
    Calls Try.prog 38 #[.slice (some ⟨blk, off, none⟩) zs.length cap] w fun e w' =>
      e = .returned (.tuple #[]) ∧ ∃ n os, w' = grow (putRow (Value.int .i64) (Sort.ahead w n) blk off (zs.mergeSort fun x y => decide (x ≤ y)).toArray) os := Any.slices_Sort_int si_n189 blk off cap zs w hH hblk hsz
open Go.RowKit Go.Sort in
/-- .. and plain. (LAID: no walk: one application.) -/
theorem si_none (p : Option Addr) (cap : Nat) (w : World) :
    Calls Try.prog 38 #[.slice p 0 cap] w fun e w' => e = .returned (.tuple #[]) ∧ w' = w := Any.slices_Sort_int_none si_n189 p cap w
def sortI (l : List Int) : List Int := l.mergeSort fun x y => decide (x ≤ y)
theorem sortI_len (l : List Int) : (sortI l).length = l.length := List.length_mergeSort l
theorem mem_sortI {l : List Int} {x : Int} : x ∈ sortI l ↔ x ∈ l := (List.mergeSort_perm l _).mem_iff
theorem sortI_le (l : List Int) : (sortI l).Pairwise (· ≤ ·) := by
  have h := List.pairwise_mergeSort (le := fun x y : Int => decide (x ≤ y)) (by intro a b c h1 h2; simp at *; omega) (by intro a b; simp; omega) l
  exact h.imp fun h => by simpa using h
theorem sortI_lt {l : List Int} (h : l.Nodup) : (sortI l).Pairwise (· < ·) := by
  have h1 := sortI_le l
  have h2 : (sortI l).Nodup := (List.mergeSort_perm l _).nodup_iff.2 h
  exact List.Pairwise.imp (fun ⟨a, b⟩ => by omega) (List.Pairwise.and h1 h2)
theorem World.grownBy_refl (w : World) (r : Option Nat) : w.grownBy w r := ⟨rfl, rfl, rfl, Nat.le_refl _, fun _ _ _ => rfl⟩

open Go.Sort in
theorem sort_own {W : World} {base : Nat} {v : Value} {l : List Int} (h : OwnInts W base 3 v l) (hl : l.length ≤ 1000000) :
    Calls Try.prog 38 #[v] W fun e w' => e = .returned (.tuple #[]) ∧ OwnInts w' base 3 v (sortI l) ∧ W.grownBy w' v.ownBlock := by
  have h' := h
  unfold OwnInts at h'
  rcases h'.2 with ⟨rfl, h0⟩ | ⟨g, cap, cur, rfl, hg, hb, hn, hm, hs, ht⟩
  · have e0 : l = [] := List.eq_nil_of_length_eq_zero h0
    subst e0
    refine (si_none none 0 W).mono fun e w' ⟨he, hw⟩ => ?_
    subst hw
    exact ⟨he, by simpa [sortI] using h, World.grownBy_refl _ _⟩
  · have hlt : g < W.heap.size := (Array.getElem?_eq_some_iff.1 hb).1
    have hH : Holds (Value.int .i64) W g 0 l.toArray := fun j hj => by
      have hj' : j < l.length := by simpa using hj
      refine ⟨?_, h'.frozenAt (0 + j)⟩
      rw [Nat.zero_add, h'.cellAt j (by omega)]
      simp [hj']
    refine (si_sort g 0 cap l W hH hlt (by omega)).mono fun e w' ⟨he, n, os, hw⟩ => ?_
    have hblk : w'.heap[g]? = some (.cells (putCells (Value.int .i64) 0 (sortI l).toArray cur) 3 (0, 0)) := by
      rw [hw, heap_grow_old _ _ (by simpa using hlt)]
      simp [putRow, mapBlock, Go.Sort.ahead, Array.getElem?_modify, hb, onCells, sortI]
    refine ⟨he, ?_, ?_⟩
    · refine ⟨by simp, .inr ⟨g, cap, putCells (Value.int .i64) 0 (sortI l).toArray cur, by rw [sortI_len], hg, hblk, by rw [sortI_len]; exact hn, hm, by simp [putCells, hs], ?_⟩⟩
      apply List.ext_getElem?
      intro i
      by_cases hi : i < l.length
      · have hi2 : i < (sortI l).length := by rw [sortI_len]; exact hi
        have hic : i < cur.size := by omega
        rw [List.getElem?_take, if_pos (by omega), Array.getElem?_toList]
        simp [putCells, hic, hi2]
      · rw [List.getElem?_eq_none (by rw [List.length_take, sortI_len]; omega), List.getElem?_eq_none (by rw [List.length_map, sortI_len]; omega)]
    · refine ⟨by rw [hw]; rfl, by rw [hw]; rfl, by rw [hw]; rfl, by rw [hw]; simp [Go.Sort.ahead], fun k hk hne => ?_⟩
      have hkg : g ≠ k := fun e => hne (by rw [e]; rfl)
      rw [hw, heap_grow_old _ _ (by simpa using hk)]
      simp [putRow, mapBlock, Go.Sort.ahead, Array.getElem?_modify, hkg]
end Go.Proofs.Ytkekkbbdhdamjaa
