/- Contract of slices.SortFunc on an own row of lists. -/
import Derived.Test.YtkekkbbdhdamjaaPCmpL
import Derived.WalkKit
import Derived.WalkSpells
import Derived.WalkLawsBesides
import Derived.Deep.LoopGhost
import Derived.Deep.QuietTactic
import Derived.BigQuiet
import Derived.StillTailTactics
import Derived.Lib.Hide
import Derived.Outline
import Derived.Lib.QuietBelow
namespace Go.Proofs.Ytkekkbbdhdamjaa
open Go.RowKit Go.Shelf Go.Sort Go.Lib

theorem merge_inc {n : Nat} (f : Fin n → List Int) (hf : ∀ i j, f i = f j → i = j) : Inc (((List.finRange n).mergeSort fun x y => !ltOf (cfF f) y x).map f) ∧ ∀ i, i ∈ ((List.finRange n).mergeSort fun x y => !ltOf (cfF f) y x) := by
  have hp := List.mergeSort_perm (List.finRange n) (fun x y => !ltOf (cfF f) y x)
  have hO := swo_cfF f
  have hs : ((List.finRange n).mergeSort fun x y => !ltOf (cfF f) y x).Pairwise (fun a b => (!ltOf (cfF f) b a) = true) := List.pairwise_mergeSort (fun a b c h1 h2 => by
      simp only [Bool.not_eq_true'] at *
      exact hO.ntrans c b a h2 h1) (fun a b => by
      cases h : ltOf (cfF f) b a
      · rfl
      · rw [ltOf_cfF] at h
        rw [ltOf_cfF, ltP_asymm h]; rfl) _
  have hnd : ((List.finRange n).mergeSort fun x y => !ltOf (cfF f) y x).Nodup := hp.nodup_iff.2 (List.nodup_finRange n)
  refine ⟨?_, fun i => hp.mem_iff.2 (List.mem_finRange i)⟩
  unfold Inc
  rw [List.pairwise_map]
  refine (List.Pairwise.and hs hnd).imp ?_
  rintro a b ⟨h1, h2⟩
  rw [ltOf_cfF] at h1
  cases h : ltP (f a) (f b)
  · exact absurd (hf _ _ (ltP_tri h (by simpa using h1))) h2
  · rfl
theorem grown_sort {n : Nat} [Inhabited (Fin n)] {enc : Fin n → Value} {W : World} {g off k : Nat} {d : Array (Fin n)} {os : Array Obj} : W.grownBy (sortWorld enc W g off k d os) (some g) := by
  refine ⟨rfl, rfl, rfl, by unfold sortWorld; simp [Go.Sort.grow, putRow, mapBlock, Go.Sort.ahead], fun q hq hne => ?_⟩
  have hkg : g ≠ q := fun e => hne (by rw [e])
  unfold sortWorld
  rw [heap_grow_old _ _ (by simpa [putRow, mapBlock, Go.Sort.ahead] using hq)]
  simp [putRow, mapBlock, Go.Sort.ahead, Array.getElem?_modify, hkg]

theorem sortF_any {W : World} {base : Nat} {P : Nat → Prop} {v : Value} {L : List (List Int)} (h : ORows W base P 22 v L) (hP : ∀ q, v.ownBlock = some q → ¬ P q) (hnd : L.Nodup) (hl : L.length ≤ 1000000) (hbase : base ≤ W.heap.size) :
    Calls Try.prog 34 #[v, .func (.func 35) #[] #[]] W fun e w' => e = .returned (.tuple #[]) ∧ (∃ a c, v = .slice a L.length c ∧ Rows w' a L.length c (sortP L)) ∧ Below base W w' := by
  obtain ⟨us, hown, hold⟩ := h
  by_cases hL0 : L = []
  · subst hL0
    obtain ⟨a, c, rfl, _, _⟩ := own_slice hown
    refine (AnyF.slices_SortFunc_none (ρ := so_ren) ({ so_n6 with } : SlLaysF0.n6 Try.prog so_ren) a c (.func (.func 35) #[] #[]) W).mono ?_
    rintro e w' ⟨rfl, rfl⟩
    have hr := (ORows.rows (P := P) ⟨us, hown, hold⟩)
    obtain ⟨a', c', e, hR, _⟩ := hr
    exact ⟨rfl, ⟨a', c', e, hR⟩, (Below.refl _ _).mono hbase⟩
  rcases hown.2 with ⟨rfl, h0⟩ | ⟨g, cap, cur, rfl, hg, hb, hn, hmx, hs, ht⟩
  · exact absurd (List.eq_nil_of_length_eq_zero h0) hL0
  · have hlt : g < W.heap.size := (Array.getElem?_eq_some_iff.1 hb).1
    have hul : us.length = L.length := hold.1
    obtain ⟨n, hnL⟩ : ∃ n, L.length = n := ⟨_, rfl⟩
    rw [hnL] at hown hn hul hl ⊢
    by_cases hn0 : n = 0
    · exact absurd (List.eq_nil_of_length_eq_zero (hnL.trans hn0)) hL0
    · haveI : Inhabited (Fin n) := ⟨⟨0, by omega⟩⟩
      let f : Fin n → List Int := fun i => L[i.val]'(by rw [hnL]; exact i.isLt)
      let enc : Fin n → Value := fun i => us[i.val]'(by rw [hul]; exact i.isLt)
      have hf : ∀ i j, f i = f j → i = j := fun i j e => by
        apply Fin.ext
        exact nodup_get hnd (List.getElem?_eq_getElem (by rw [hnL]; exact i.isLt)) ((List.getElem?_eq_getElem (by rw [hnL]; exact j.isLt)).trans (congrArg some e.symm))
      have hel : ∀ i : Fin n, ∃ a m c, enc i = .slice a m c ∧ Ints W a m c (f i) ∧ (0 < m → (enc i).ownBlock ≠ some g) := fun i => by
        obtain ⟨a, m, c, e, hI, hq⟩ := hold.2 i.val (enc i) (f i) (List.getElem?_eq_getElem _) (List.getElem?_eq_getElem _)
        refine ⟨a, m, c, e, hI, fun h0 e2 => hP g rfl (hq g h0 e2)⟩
      have hcmp : CmpLays1 Try.prog 35 #[] enc (cfF f) g 0 (List.finRange n).toArray.size W := fun m os dk _ x y => by
        obtain ⟨a1, m1, c1, e1, hI1, hq1⟩ := hel x
        obtain ⟨a2, m2, c2, e2, hI2, hq2⟩ := hel y
        rw [e1] at hq1
        rw [e2] at hq2
        rw [e1, e2]
        refine (compare_any a1 a2 m1 c1 m2 c2 (f x) (f y) _ (hI1.grown grown_sort hq1) (hI2.grown grown_sort hq2)).mono ?_
        rintro e w' ⟨rfl, rfl⟩
        exact ⟨rfl, 0, #[], rfl⟩
      have hH : Holds enc W g 0 (List.finRange n).toArray := fun j hj => by
        have hj' : j < n := by simpa using hj
        refine ⟨?_, hown.frozenAt (0 + j)⟩
        rw [Nat.zero_add, hown.cellAt j (by omega)]
        simp [enc, hj', List.getElem?_eq_getElem (show j < us.length by omega)]
      have h1c : OneCell enc := fun i => by
        obtain ⟨a, m, c, e, _⟩ := hel i
        rw [e]; rfl
      obtain ⟨hinc, hall⟩ := merge_inc f hf
      have hcall := Any.slices_SortFunc_total so_n6 enc h1c (cfF f) (swo_cfF f) 35 #[] g 0 cap (List.finRange n).toArray W (enters_of Try.func35 (by kernel_rfl) rfl) hcmp hH hlt (by simp; omega) (fun x y h1 h2 => hf x y (ltP_tri h1 h2))
      have hsz : (List.finRange n).toArray.size = n := by simp
      rw [hsz] at hcall
      refine hcall.mono ?_
      rintro e w' ⟨rfl, k, os, rfl⟩
      rw [List.toList_toArray]
      obtain ⟨S, hS⟩ : ∃ S, (List.finRange n).mergeSort (fun x y => !ltOf (cfF f) y x) = S := ⟨_, rfl⟩
      rw [hS] at hinc hall ⊢
      have hSl : S.length = n := by rw [← hS, List.length_mergeSort, List.length_finRange]
      have hfin : S.map f = sortP L := sortP_uniq hnd hinc fun x => by
        rw [List.mem_map]
        constructor
        · rintro ⟨i, _, rfl⟩; exact List.getElem_mem _
        · intro hx
          obtain ⟨i, hi, e⟩ := List.getElem_of_mem hx
          exact ⟨⟨i, by omega⟩, hall _, e⟩
      have hH2 := holds_sortWorld enc W g 0 k (List.finRange n).toArray S.toArray os hlt hH (by simp [hSl])
      refine ⟨rfl, ⟨some ⟨g, 0, none⟩, cap, rfl, ?_⟩, ?_⟩
      · refine ⟨by rw [← hfin, List.length_map, hSl], by omega, hmx, fun _ => ⟨g, 0, rfl, Nat.lt_of_lt_of_le hlt grown_sort.size⟩, fun b o e i hi => ?_⟩
        obtain ⟨rfl, rfl⟩ : g = b ∧ 0 = o := by simpa using e
        have hc := (hH2 i (by simpa [hSl] using hi)).1
        obtain ⟨a, m, c, e1, hI, hq⟩ := hel (S[i]'(by omega))
        refine ⟨a, m, c, ?_, ?_⟩
        · rw [hc, ← e1]
          simp [hSl, hi]
        · rw [← hfin, List.getElem?_map, List.getElem?_eq_getElem (by omega)]
          rw [e1] at hq
          exact hI.grown grown_sort hq
      · exact ((Below.refl W.heap.size W).mono hbase).grown grown_sort hbase (fun q e => by injection e with e; omega)
end Go.Proofs.Ytkekkbbdhdamjaa
