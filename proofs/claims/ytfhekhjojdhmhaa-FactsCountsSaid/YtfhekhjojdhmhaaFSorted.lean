/- slices.SortedFunc at keys. -/
import Derived.Test.YtfhekhjojdhmhaaFSrt
import Derived.WalkKit
import Derived.WalkSpells
import Derived.WalkLawsBesides
import Derived.Deep.LoopGhost
import Derived.Deep.QuietTactic
import Derived.BigQuiet
import Derived.StillTailTactics
import Derived.Lib.Hide
import Derived.Outline
import Derived.Lib.QuietBelow
namespace Go.Proofs.Ytfhekhjojdhmhaa
open Go.RowKit Go.Shelf

instance : Inhabited Key := ⟨⟨0, 0, 0⟩⟩
theorem merge_eq {ss K : List Key} (hnd : ss.Nodup) (hm : ∀ k, k ∈ ss ↔ k ∈ K) (hK : K.Pairwise (fun a b => lessK a b = true)) : ss.mergeSort (fun x y => !lessK y x) = K := by
  have hp := List.mergeSort_perm ss (fun x y => !lessK y x)
  have hs : (ss.mergeSort (fun x y => !lessK y x)).Pairwise (fun a b => (!lessK b a) = true) := List.pairwise_mergeSort (fun a b c h1 h2 => by
      simp only [Bool.not_eq_true'] at *
      unfold lessK at *; rw [decide_eq_false_iff_not] at *; omega) (fun a b => by
      cases h : lessK b a
      · rfl
      · rw [lessK_asymm h]; rfl) ss
  have hn : (ss.mergeSort (fun x y => !lessK y x)).Nodup := hp.nodup_iff.2 hnd
  refine sorted_uniq ((List.Pairwise.and hs hn).imp ?_) hK (fun k => by rw [hp.mem_iff]; exact hm k)
  rintro a b ⟨h1, h2⟩
  cases h : lessK a b
  · exact absurd (lessK_tri h (by simpa using h1)) h2
  · rfl

open Go.Sort Go.Lib in
theorem sortK_own {W : World} {base : Nat} {v : Value} {ss K : List Key} (h : OwnSL encK 3 W base 24 v ss) (hl : ss.length ≤ 1000000) (hnd : ss.Nodup) (hm : ∀ k, k ∈ ss ↔ k ∈ K) (hK : K.Pairwise (fun a b => lessK a b = true)) :
    Calls Try.prog 55 #[v, .func (.func 42) #[] #[]] W fun e w' => e = .returned (.tuple #[]) ∧ (∃ a c, v = .slice a K.length c ∧ SL encK 3 w' a K.length c K) ∧ Below base W w' := by
  have hmg := merge_eq hnd hm hK
  have hlen : K.length = ss.length := by rw [← hmg, List.length_mergeSort]
  have h' := h
  unfold OwnSL at h'
  rcases h'.2 with ⟨rfl, h0⟩ | ⟨g, cap, cur, rfl, hg, hb, hn, hmx, hs, ht⟩
  · have e0 : ss = [] := List.eq_nil_of_length_eq_zero h0
    subst e0
    have eK : K = [] := List.eq_nil_of_length_eq_zero (by simpa using hlen)
    subst eK
    refine (AnyF.slices_SortFunc_none so_n6 none 0 (.func (.func 42) #[] #[]) W).mono ?_
    rintro e w' ⟨rfl, rfl⟩
    exact ⟨rfl, ⟨none, 0, rfl, SL.nil _ _ _⟩, Below.refl _ _⟩
  · have hlt : g < W.heap.size := (Array.getElem?_eq_some_iff.1 hb).1
    have hSL := OwnSL.sl2 (a := some ⟨g, 0, none⟩) (c := cap) h encK_len rfl
    have hH : HoldsK encK 3 W g 0 ss.toArray := fun j hj => by
      have hj' : j < ss.length * 3 := by simpa using hj
      refine ⟨?_, h.frozen (0 + j)⟩
      have hi : j / 3 < ss.length := by omega
      have hc := hSL.cell g 0 rfl (j / 3) ss[j / 3] (List.getElem?_eq_getElem hi) (j % 3)
      rw [get_flatK _ _ _ _ (by simpa using hj')]
      have e1 : (encK ss[j / 3])[j % 3]? = some ((encK ss[j / 3])[j % 3]!) := by
        rw [List.getElem!_eq_getElem?_getD, List.getElem?_eq_getElem (by rw [encK_len]; omega)]; rfl
      have := hc _ e1
      rw [show 0 + j / 3 * 3 + j % 3 = 0 + j by omega] at this
      rw [this]
      simp [hi]
    have hcmp : CmpLays Try.prog 42 #[] encK 3 cmpK g 0 ss.toArray.size W := fun m os dk _ x y => compareKeys_any x y _
    refine (AnyQ.slices_SortFunc_total so_n6 3 Try.isAgg24 Try.sizeOf24 encK encK_len encK_one cmpK swo_cmpK 42 #[] g 0 cap ss.toArray W (enters_of Try.func42 (by kernel_rfl) rfl) hcmp hH hlt (by simp; omega) (fun x y h1 h2 => by rw [ltOf_cmpK] at h1 h2; exact lessK_tri h1 h2)).mono ?_
    rintro e w' ⟨rfl, n, os, rfl⟩
    rw [ltOf_cmpK]
    have e2 : ss.toArray.toList.mergeSort (fun x y => !lessK y x) = K := by simpa using hmg
    rw [e2]
    refine ⟨rfl, ⟨some ⟨g, 0, none⟩, cap, by rw [hlen], ?_⟩, ?_⟩
    · have hH2 := holdsK_sortWorldK_c encK 3 W g 0 ss.toArray K.toArray n os hH hlt (by simp [hlen])
      have hsz := size_sortWorldK_c encK 3 W g 0 n K.toArray os
      refine ⟨rfl, by omega, hmx, fun _ => ⟨g, 0, rfl, by omega⟩, fun b o e i x hx j v hv => ?_⟩
      obtain ⟨rfl, rfl⟩ : g = b ∧ 0 = o := by simpa using e
      have hi := (List.getElem?_eq_some_iff.1 hx).1
      have hj : j < 3 := (List.getElem?_eq_some_iff.1 hv).1
      have := (hH2.cell (i := i) (c := j) (by simpa using hi) hj).1
      rw [this]
      have e3 : K.toArray[i]! = x := by simp [hx]
      rw [e3, List.getElem!_eq_getElem?_getD, hv]; rfl
    · have hgr : W.grownBy (sortWorldK encK 3 W g 0 n K.toArray os) (some g) := by
        refine ⟨rfl, rfl, rfl, size_sortWorldK_c encK 3 W g 0 n K.toArray os, fun k hk hne => ?_⟩
        have hkg : g ≠ k := fun e => hne (by rw [e])
        unfold sortWorldK putRowK
        rw [heap_grow_old _ _ (by simpa [putRow, mapBlock, Go.Sort.ahead] using hk)]
        simp [putRow, mapBlock, Go.Sort.ahead, Array.getElem?_modify, hkg]
      exact ((Below.refl W.heap.size W).mono (by omega)).grown hgr (by omega) (fun k e => by injection e with e; omega)

set_option maxRecDepth 10000 in
theorem sortedFunc_any (W : World) (Bm b : Nat) (ks K : List Key) (hm : Box W Bm #[.map (some b)] 72) (hKM : KMap W b ks) (hl : ks.length ≤ 1000000) (hmem : ∀ k, k ∈ ks ↔ k ∈ K) (hK : K.Pairwise (fun a b => lessK a b = true)) :
    Calls Try.prog 40 #[.func (.func 56) #[] #[.pointer (some ⟨Bm, 0, none⟩)], .func (.func 42) #[] #[]] W
      fun e w' => ∃ a c, e = .returned (.slice a K.length c) ∧ SL encK 3 w' a K.length c K ∧ Below W.heap.size W w' := by
  have HCO := Lib.hid (collect_any 56 #[.pointer (some ⟨Bm, 0, none⟩)] _ _ ks.length hl W (enters_of Try.func56 (by kernel_rfl) rfl) (keys1_stops ks Bm b W hm hKM hl))
  have HSF := Lib.hid (fun (w1 : World) (v : Value) (ss : List Key) (hO : OwnSL encK 3 w1 W.heap.size 24 v ss) (hS : ss.Nodup ∧ ∀ k, k ∈ ss ↔ k ∈ ks) =>
    sortK_own hO (by rw [((List.perm_ext_iff_of_nodup hS.1 hKM.nodup).2 hS.2).length_eq]; exact hl) hS.1 (fun k => (hS.2 k).trans (hmem k)) hK)
  clear hKM hm hK hmem
  go_enter Try.func40, Try.ntmps40
  go_wp2_with (first | (go_at_call 54; refine HCO.out.mono ?_; rintro e w1 ⟨v, ss, rfl, hS, hO, hB⟩) | (go_at_call 55; refine (HSF.out w1 v ss hO hS).mono ?_; rintro e w2 ⟨rfl, ⟨a, c, rfl, hSL⟩, hB2⟩))
  go_ret
  exact ⟨a, c, rfl, hSL, hB.trans hB2⟩
end Go.Proofs.Ytfhekhjojdhmhaa
