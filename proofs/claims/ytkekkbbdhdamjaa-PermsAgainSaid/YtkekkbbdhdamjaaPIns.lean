/- Contract of ref.Insert. -/
import Derived.Test.YtkekkbbdhdamjaaPRows
import Derived.Test.YtkekkbbdhdamjaaApp2
import Derived.WalkKit
import Derived.WalkSpells
import Derived.WalkLawsBesides
import Derived.Deep.LoopGhost
import Derived.Deep.QuietTactic
import Derived.BigQuiet
import Derived.StillTailTactics
import Derived.Lib.Hide
import Derived.Outline
import Derived.Lib.QuietBelow
namespace Go.Proofs.Ytkekkbbdhdamjaa
open Go.RowKit

theorem info_ints : (Try.prog.info? 22).map (fun i => (i.zero, i.size, i.bytes)) = some (some (.slice none 0 0), 1, 24) := by kernel_rfl
theorem rows_news {w : World} {b o k : Nat} {us : List Value} (h : ∀ (i : Nat) (u : Value), us[i]? = some u → w.cell? ⟨b, o + (k + i), none⟩ = some u) : ∀ ad : Addr, some (⟨b, o + k, none⟩ : Addr) = some ad → ∀ j u, us[j]? = some u → w.cell? (ad.add j) = some u := by
  intro ad e j u hu
  injection e with e
  subst e
  have e2 : Addr.add ⟨b, o + k, none⟩ j = ⟨b, o + (k + j), none⟩ := by
    by_cases h0 : j = 0 <;> simp [Addr.add, h0, Nat.add_assoc]
  rw [e2]; exact h j u hu

set_option maxHeartbeats 4000000 in
theorem insert_any (a0 a1 : Option Addr) (m c n d k : Nat) (l : List (List Int)) (p : List Int) (W : World) (P : Nat → Prop) (h0 : Rows W a0 m c l) (hP0 : RowsAll W P a0 m) (h1 : Ints W a1 n d p) (hP1 : ∀ q, 0 < n → (Value.slice a1 n d).ownBlock = some q → P q) (hm : m ≤ 1000000) (hk : k ≤ m) :
    Calls Try.prog 37 #[.slice a0 m c, .int .i64 k, .slice a1 n d] W fun e w' => ∃ v, e = .returned v ∧ ORows w' W.heap.size P 22 v (l.take k ++ p :: l.drop k) ∧ Below W.heap.size W w' := by
  have hl0 := Lib.hid h0.len
  have hcp := h0.cap
  have hmx := h0.mx
  unfold maxLen at hmx
  obtain ⟨i22, hi22, hz220, hz221, hz222⟩ := info_parts info_ints
  have hnil : (W.alloc (.cells #[] 22)).ownsRow W.heap.size 22 1 (.slice (some ⟨W.heap.size, 0, none⟩) 0 0) 0 [] := World.ownsRow_made W #[] 0 (Nat.le_refl _) (by simp [maxLen]) rfl
  obtain ⟨wk, hwk, hbk⟩ : ∃ wk, W.alloc (.cells #[] 22) = wk ∧ Below W.heap.size W wk := ⟨_, rfl, (Below.refl _ _).alloc (Nat.le_refl _) _⟩
  rw [hwk] at hnil
  have hnl := World.ownsRow.lt hnil
  have HP := Lib.hid (Olds.one h1 hP1)
  by_cases hm0 : 0 < m
  · obtain ⟨b0, o0, rfl, hb0⟩ := h0.at' hm0
    obtain ⟨us, hus, hcells, hold⟩ := h0.olds hP0
    have hone := hold.one'
    have HC := Lib.hid hcells
    have HON := Lib.hid hone
    have HOL := Lib.hid hold
    have HUS := Lib.hid hus
    clear hcells hone hold hus
    have s0 : (0 : Int) ≤ (k : Int) := by omega
    have s1 : (k : Int) ≤ (m : Int) := by omega
    have s2 : (k : Int) ≤ (c : Int) := by omega
    have s3 : (m : Int) ≤ (c : Int) := by omega
    by_cases hck : c = k
    · obtain rfl : c = k := hck
      obtain rfl : m = c := by omega
      have HD : Hid (us.drop m = [] ∧ l.drop m = []) := Lib.hid ⟨List.drop_of_length_le (by rw [HUS.out]; omega), List.drop_of_length_le (by rw [hl0.out]; omega)⟩
      go_enter Try.func37, Try.ntmps37
      go_wp2_with (first
        | (at_builtin; refine wpList_append_any rfl _ _ 31 rfl W.heap.size 22 i22 (.slice none 0 0) 1 24 Try.underlying31 hi22 hz220 hz221 hz222 rfl (by decide) _ _ _ hnil rfl (some ⟨b0, o0, none⟩) m m (us.take m) rfl (fun e => by cases e) (by rw [List.length_take, HUS.out]; omega) (rows_news (k := 0) fun i u hu => by rw [Nat.zero_add, hbk.cell (p := ⟨b0, o0 + i, none⟩) hb0]; exact HC.out i u (by rw [List.getElem?_take] at hu; split at hu; exact hu; cases hu)) (fun u hu => HON.out u (List.mem_of_mem_take hu)) (by unfold maxLen; omega) (by omega) hbk.size ?_; simp only [Nat.zero_add, List.nil_append]; intro v5 w5 hown5 hgrow5 hfr5; have hB5 : Below W.heap.size W w5 := hbk.grown hgrow5 hbk.size (fun q e => (hnl q e).1); obtain ⟨a5, c5, rfl, _, _⟩ := own_slice hown5; have hnl5 := World.ownsRow.lt hown5; have hsz5 := hB5.size)
        | (at_builtin; refine wpList_append_own2 _ rfl _ _ 31 rfl W.heap.size 22 i22 (.slice none 0 0) 1 24 Try.underlying31 hi22 hz220 hz221 hz222 rfl (by decide) _ _ _ (hown5.alloc _) rfl ⟨_, 0, none⟩ 1 1 [.slice a1 n d] rfl rfl (cell_one_new _ _ _) (by simp [Value.oneCell']) (by unfold maxLen; omega) (by omega) (by simp; omega) ?_; intro v6 w6 hown6 hgrow6 hfr6; have hB6 : Below W.heap.size W w6 := (hB5.alloc hsz5 _).grown hgrow6 (by simp; omega) (fun q e => (hnl5 q e).1); obtain ⟨a6, c6, rfl, _, _⟩ := own_slice hown6; have hnl6 := World.ownsRow.lt hown6)
        | (at_builtin; refine wpList_append_any rfl _ _ 31 rfl W.heap.size 22 i22 (.slice none 0 0) 1 24 Try.underlying31 hi22 hz220 hz221 hz222 rfl (by decide) _ _ _ hown6 rfl (some ⟨b0, o0, none⟩) _ _ [] rfl (fun e => by cases e) rfl (fun ad e j u hu => by simp at hu) (fun u hu => by simp at hu) (by unfold maxLen; omega) (by omega) hB6.size ?_; intro v7 w7 hown7 hgrow7 hfr7; have hB7 : Below W.heap.size W w7 := hB6.grown hgrow7 hB6.size (fun q e => (hnl6 q e).1)))
      go_ret
      refine ⟨_, rfl, ⟨us.take m ++ [.slice a1 n d] ++ [], ?_, ?_⟩, hB7⟩
      · rw [show (l.take m ++ p :: l.drop m).length = m + 1 + 0 by (simp [hl0.out]; try omega)]
        exact hown7
      · rw [show l.take m ++ p :: l.drop m = l.take m ++ [p] ++ l.drop m by simp]
        exact (((HOL.out.take m).append HP.out).append (by rw [HD.out.2]; exact Olds.nil _ _)).below hB7
    · skip
      go_enter Try.func37, Try.ntmps37
      go_wp2_with (first
        | (at_builtin; refine wpList_append_any rfl _ _ 31 rfl W.heap.size 22 i22 (.slice none 0 0) 1 24 Try.underlying31 hi22 hz220 hz221 hz222 rfl (by decide) _ _ _ hnil rfl (some ⟨b0, o0, none⟩) k c (us.take k) rfl (fun e => by cases e) (by rw [List.length_take, HUS.out]; omega) (rows_news (k := 0) fun i u hu => by rw [Nat.zero_add, hbk.cell (p := ⟨b0, o0 + i, none⟩) hb0]; exact HC.out i u (by rw [List.getElem?_take] at hu; split at hu; exact hu; cases hu)) (fun u hu => HON.out u (List.mem_of_mem_take hu)) (by unfold maxLen; omega) (by omega) hbk.size ?_; simp only [Nat.zero_add, List.nil_append]; intro v5 w5 hown5 hgrow5 hfr5; have hB5 : Below W.heap.size W w5 := hbk.grown hgrow5 hbk.size (fun q e => (hnl q e).1); obtain ⟨a5, c5, rfl, _, _⟩ := own_slice hown5; have hnl5 := World.ownsRow.lt hown5; have hsz5 := hB5.size)
        | (at_builtin; refine wpList_append_own2 _ rfl _ _ 31 rfl W.heap.size 22 i22 (.slice none 0 0) 1 24 Try.underlying31 hi22 hz220 hz221 hz222 rfl (by decide) _ _ _ (hown5.alloc _) rfl ⟨_, 0, none⟩ 1 1 [.slice a1 n d] rfl rfl (cell_one_new _ _ _) (by simp [Value.oneCell']) (by unfold maxLen; omega) (by omega) (by simp; omega) ?_; intro v6 w6 hown6 hgrow6 hfr6; have hB6 : Below W.heap.size W w6 := (hB5.alloc hsz5 _).grown hgrow6 (by simp; omega) (fun q e => (hnl5 q e).1); obtain ⟨a6, c6, rfl, _, _⟩ := own_slice hown6; have hnl6 := World.ownsRow.lt hown6)
        | (at_builtin; refine wpList_append_any rfl _ _ 31 rfl W.heap.size 22 i22 (.slice none 0 0) 1 24 Try.underlying31 hi22 hz220 hz221 hz222 rfl (by decide) _ _ _ hown6 rfl (some ⟨b0, o0 + k, none⟩) _ _ (us.drop k) rfl (fun e => by cases e) (by rw [List.length_drop, HUS.out]; omega) (rows_news fun i u hu => by rw [hB6.cell (p := ⟨b0, o0 + (k + i), none⟩) hb0]; exact HC.out (k + i) u (by rw [List.getElem?_drop] at hu; exact hu)) (fun u hu => HON.out u (List.mem_of_mem_drop hu)) (by unfold maxLen; omega) (by omega) hB6.size ?_; intro v7 w7 hown7 hgrow7 hfr7; have hB7 : Below W.heap.size W w7 := hB6.grown hgrow7 hB6.size (fun q e => (hnl6 q e).1)))
      go_ret
      refine ⟨_, rfl, ⟨us.take k ++ [.slice a1 n d] ++ (us.drop k), ?_, ?_⟩, hB7⟩
      · rw [show (l.take k ++ p :: l.drop k).length = k + 1 + (m - k) by (simp [hl0.out]; try omega)]
        exact hown7
      · rw [show l.take k ++ p :: l.drop k = l.take k ++ [p] ++ l.drop k by simp]
        exact (((HOL.out.take k).append HP.out).append (HOL.out.drop k)).below hB7
  · obtain rfl : m = 0 := by omega
    obtain rfl : k = 0 := by omega
    have hl00 : l = [] := List.eq_nil_of_length_eq_zero hl0.out
    subst hl00
    go_enter Try.func37, Try.ntmps37
    go_wp2_with (first
      | (at_builtin; refine wpList_append_any rfl _ _ 31 rfl W.heap.size 22 i22 (.slice none 0 0) 1 24 Try.underlying31 hi22 hz220 hz221 hz222 rfl (by decide) _ _ _ hnil rfl _ _ _ [] rfl (fun _ => rfl) rfl (fun ad e j u hu => by simp at hu) (fun u hu => by simp at hu) (by unfold maxLen; omega) (by omega) hbk.size ?_; simp only [Nat.zero_add, List.nil_append]; intro v5 w5 hown5 hgrow5 hfr5; have hB5 : Below W.heap.size W w5 := hbk.grown hgrow5 hbk.size (fun q e => (hnl q e).1); obtain ⟨a5, c5, rfl, _, _⟩ := own_slice hown5; have hnl5 := World.ownsRow.lt hown5; have hsz5 := hB5.size)
      | (at_builtin; refine wpList_append_own2 _ rfl _ _ 31 rfl W.heap.size 22 i22 (.slice none 0 0) 1 24 Try.underlying31 hi22 hz220 hz221 hz222 rfl (by decide) _ _ _ (hown5.alloc _) rfl ⟨_, 0, none⟩ 1 1 [.slice a1 n d] rfl rfl (cell_one_new _ _ _) (by simp [Value.oneCell']) (by unfold maxLen; omega) (by omega) (by simp; omega) ?_; simp only [Nat.zero_add, List.nil_append]; intro v6 w6 hown6 hgrow6 hfr6; have hB6 : Below W.heap.size W w6 := (hB5.alloc hsz5 _).grown hgrow6 (by simp; omega) (fun q e => (hnl5 q e).1); obtain ⟨a6, c6, rfl, _, _⟩ := own_slice hown6; have hnl6 := World.ownsRow.lt hown6)
      | (at_builtin; refine wpList_append_any rfl _ _ 31 rfl W.heap.size 22 i22 (.slice none 0 0) 1 24 Try.underlying31 hi22 hz220 hz221 hz222 rfl (by decide) _ _ _ hown6 rfl _ _ _ [] rfl (fun _ => rfl) rfl (fun ad e j u hu => by simp at hu) (fun u hu => by simp at hu) (by unfold maxLen; omega) (by omega) hB6.size ?_; intro v7 w7 hown7 hgrow7 hfr7; have hB7 : Below W.heap.size W w7 := hB6.grown hgrow7 hB6.size (fun q e => (hnl6 q e).1)))
    go_ret
    exact ⟨_, rfl, ⟨[.slice a1 n d], by simpa using hown7, HP.out.below hB7⟩, hB7⟩
end Go.Proofs.Ytkekkbbdhdamjaa
