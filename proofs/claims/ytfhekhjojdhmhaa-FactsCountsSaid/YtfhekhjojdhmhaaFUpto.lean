/- Contracts of facts.Upto and ref.Upto. -/
import Derived.Test.YtfhekhjojdhmhaaFUpD
import Derived.WalkKit
import Derived.WalkSpells
import Derived.WalkLawsBesides
import Derived.Deep.LoopGhost
import Derived.Deep.QuietTactic
import Derived.BigQuiet
import Derived.StillTailTactics
import Derived.Lib.Hide
import Derived.Outline
import Derived.Lib.QuietBelow
namespace Go.Proofs.Ytfhekhjojdhmhaa
open Go.RowKit

theorem uptoL_stay (l : List Fact) (known : Int) : uptoL l known = l.filter (stay known) := rfl
set_option maxRecDepth 10000 in
theorem delF_nil (c kb : Nat) (w : World) (hc : c ≤ maxLen) (known : Int) (hkb : w.cell? ⟨kb, 0, none⟩ = some (.int .i64 known)) :
    Calls Try.prog 46 #[.slice none 0 c, .func (.func 48) #[] #[.pointer (some ⟨kb, 0, none⟩)]] w fun e w' => e = .returned (.slice none 0 c) ∧ Below w.heap.size w w' := by
  have hkl := World.block_lt_of_cell? w _ hkb
  simp only at hkl
  have hP : PredF w 48 #[.pointer (some ⟨kb, 0, none⟩)] (fun f => decide (f.kn > known)) := fun x W hW => upto1_any x kb known W ((hW.cell (p := ⟨kb, 0, none⟩) hkl).trans hkb)
  have hen : Enters Try.prog 48 := enters_of Try.func48 (by kernel_rfl) rfl
  have hI0 := indexF_any 48 #[.pointer (some ⟨kb, 0, none⟩)] none 0 c [] (fun f => decide (f.kn > known)) w hen (SL.nil' _ _ _ _ _ hc) hP
  have HI := Lib.hid (hI0.mono (R' := fun e w' => e = .returned (.int .i64 (-1)) ∧ Below w.heap.size w w') (by rintro e w' ⟨z, rfl, hz, hB⟩; exact ⟨by rw [idx_none_uniq hz (by simp)], hB⟩))
  clear hI0 hP hen hkb
  go_enter Try.func46, Try.ntmps46
  go_wp2_with (go_at_call 52; refine HI.out.mono ?_; rintro e w1 ⟨rfl, hB⟩)
  go_ret
  exact ⟨rfl, hB⟩

set_option maxRecDepth 10000 in
set_option maxHeartbeats 2000000 in
theorem upto_any (a0 : Option Addr) (n0 c0 : Nat) (l : List Fact) (known : Int) (w : World) (h0 : SL encF 8 w a0 n0 c0 l) (hn : n0 ≤ 1000000) :
    Calls Try.prog 28 #[.slice a0 n0 c0, .int .i64 known] w (RetSL encF 8 w 28 (uptoL l known)) := by
  have hal : Below w.heap.size w (w.alloc (.cells #[.int .i64 known] 3)) := (Below.refl _ _).alloc (Nat.le_refl _) _
  have hbx := Box.new w #[.int .i64 known] 3
  obtain ⟨w1, hw1⟩ : ∃ w1, w.alloc (.cells #[.int .i64 known] 3) = w1 := ⟨_, rfl⟩
  rw [hw1] at hal hbx
  have HW := Lib.hid hw1
  have hk1 : w1.cell? ⟨w.heap.size, 0, none⟩ = some (.int .i64 known) := by simpa using hbx.cell 0
  have hkl := hbx.lt
  have HCL := Lib.hid (clone_any a0 n0 c0 l w1 (h0.below hal) hn)
  clear hw1
  have key : ∀ v w2, OwnSL encF 8 w2 w1.heap.size 28 v l → Below w1.heap.size w1 w2 → Calls Try.prog 46 #[v, .func (.func 48) #[] #[.pointer (some ⟨w.heap.size, 0, none⟩)]] w2 (fun e w3 => ∃ v3, e = .returned v3 ∧ OwnSL encF 8 w3 w1.heap.size 28 v3 (uptoL l known) ∧ Below w1.heap.size w2 w3) := by
    intro v w2 hown hB2
    have hk2 : w2.cell? ⟨w.heap.size, 0, none⟩ = some (.int .i64 known) := (hB2.cell (p := ⟨w.heap.size, 0, none⟩) hkl).trans hk1
    unfold OwnSL at hown
    rcases hown.2 with ⟨rfl, h0⟩ | ⟨g, cap, cur, rfl, hbg, hg, hnc, hcm, hcs, htk⟩
    · have hl : l = [] := List.eq_nil_of_length_eq_zero h0
      subst hl
      refine (delF_nil 0 w.heap.size w2 (by simp [maxLen]) known hk2).mono ?_
      rintro e w3 ⟨rfl, hB⟩
      exact ⟨_, rfl, OwnSL.nil _ _ _ _ _, hB.mono hB2.size⟩
    · refine (delF_any l known g cap l.length w.heap.size w1.heap.size cur w2 hg hcs rfl hnc hcm (cur_of htk) hk2 (by omega) hbg).mono ?_
      rintro e w3 ⟨n', rfl, hn', hO, hB⟩
      refine ⟨_, rfl, ?_, hB⟩
      unfold OwnSL
      rw [uptoL_stay, ← hn']
      exact hO
  have HK := Lib.hid key
  clear key hbx hk1
  go_enter Try.func28, Try.ntmps28
  go_wp2_with (first | (go_at_call 47; rw [HW.out]; refine HCL.out.mono ?_; rintro e w2 ⟨v, rfl, hO2, hB2⟩) | (go_at_call 46; refine (HK.out v w2 hO2 hB2).mono ?_; rintro e w3 ⟨v3, rfl, hO3, hB3⟩))
  go_ret
  exact ⟨_, rfl, hO3.mono hal.size, hal.trans ((hB2.trans hB3).mono hal.size)⟩

set_option maxRecDepth 10000 in
set_option maxHeartbeats 2000000 in
theorem rupto_any (a0 : Option Addr) (n0 c0 : Nat) (l : List Fact) (known : Int) (w : World) (h0 : SL encF 8 w a0 n0 c0 l) (hn : n0 ≤ 1000000) :
    Calls Try.prog 29 #[.slice a0 n0 c0, .int .i64 known] w (RetSL encF 8 w 28 (uptoL l known)) := by
  have hm0 := h0.mx
  have hc0 := h0.cap
  have hl0 := Lib.hid h0.len
  unfold maxLen at hm0
  have hal : Below w.heap.size w (w.alloc (.cells #[] 28)) := (Below.refl _ _).alloc (Nat.le_refl _) _
  have hO0 := OwnSL.made0 encF 8 w 28 w.heap.size (Nat.le_refl _)
  obtain ⟨i28, hi28, hz280, hz281, hz282⟩ := info8
  go_enter Try.func29, Try.ntmps29
  go_wp2_with fail
  go_loopw [5, 6] (fun v i wr => ∃ j : Nat, i = .int .i64 j ∧ j ≤ n0 ∧ OwnSL encF 8 wr w.heap.size 28 v ((l.take j).filter (stay known)) ∧ Below w.heap.size w wr) (fun _ i _ => n0 - (intOf i).toNat)
  case atStart => exact ⟨0, rfl, by omega, hO0, hal⟩
  case round =>
    clear hal hO0
    obtain ⟨j, rfl, hj, hO, hB⟩ := hrel
    by_cases hlt : j < n0
    · obtain ⟨b0, o0, rfl, hb0⟩ := h0.at' (by omega)
      obtain ⟨x, hx⟩ := h0.get hlt
      obtain ⟨e0, e1, e2, e3, e4, e5, e6, e7⟩ := (h0.below hB).fact hx
      have hle := List.length_filter_le (stay known) (l.take j)
      rw [List.length_take] at hle
      have HT := Lib.hid (take_filter (p := stay known) hx)
      obtain ⟨L, hL⟩ : ∃ L, (l.take j).filter (stay known) = L := ⟨_, rfl⟩
      rw [hL] at hO hle
      have HL := Lib.hid hL
      have hsz := hB.size
      have hOl := hO.lt
      clear hx hL
      by_cases hs : x.kn ≤ known
      · have HS : Hid (stay known x = true) := Lib.hid (by unfold stay; exact decide_eq_true hs)
        have hO' := hO
        unfold OwnSL at hO'
        go_wp2_with (at_builtin; refine wpList_append_own2 _ rfl _ _ 22 rfl w.heap.size 28 i28 _ 8 64 Try.underlying22 hi28 hz280 hz281 hz282 rfl (by decide) _ _ _ (hO'.alloc _) rfl ⟨_, 0, none⟩ 1 1 (encF x) rfl rfl (new8 _ _ _) (encF_one _) (by unfold maxLen; omega) (by omega) (by simp; omega) ?_; intro v' w1 hown' hgrow hfr)
        go_roundw
        case rel =>
          refine ⟨j + 1, by go_num, by omega, ?_, (hB.alloc hsz _).grown hgrow (by simp; omega) (fun q e => by have := (hOl q e).1; omega)⟩
          rw [HT.out, if_pos HS.out, HL.out]
          exact OwnSL.snoc hown'
        case measure => simp [intOf]; omega
      · have HS : Hid (stay known x = false) := Lib.hid (by unfold stay; exact decide_eq_false hs)
        go_wp2_with fail
        go_roundw
        case rel =>
          refine ⟨j + 1, by go_num, by omega, ?_, hB⟩
          rw [HT.out, if_neg (by rw [HS.out]; decide), HL.out, List.append_nil]
          exact hO
        case measure => simp [intOf]; omega
    · obtain rfl : j = n0 := by omega
      go_wp2_with fail
      go_ret
      refine ⟨_, rfl, ?_, hB⟩
      rw [uptoL_stay]
      rw [List.take_of_length_le (by rw [hl0.out]; exact Nat.le_refl _)] at hO
      exact hO
end Go.Proofs.Ytfhekhjojdhmhaa
