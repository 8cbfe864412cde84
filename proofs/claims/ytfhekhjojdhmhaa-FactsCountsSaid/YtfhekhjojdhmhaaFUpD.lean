/- slices.DeleteFunc at facts with the predicate of facts.Upto. -/
import Derived.Test.YtfhekhjojdhmhaaFUp
import Derived.WalkKit
import Derived.WalkSpells
import Derived.WalkLawsBesides
import Derived.Deep.LoopGhost
import Derived.Deep.QuietTactic
import Derived.BigQuiet
import Derived.StillTailTactics
import Derived.Lib.Hide
import Derived.Outline
import Derived.Lib.QuietBelow
namespace Go.Proofs.Ytfhekhjojdhmhaa
open Go.RowKit

theorem first_ex {P : Fact → Bool} : ∀ l : List Fact, (∀ x ∈ l, P x = false) ∨ ∃ (k : Nat) (x : Fact), l[k]? = some x ∧ P x = true ∧ noneUpto l P k
  | [] => .inl (by simp)
  | a :: l => by
    cases ha : P a
    · rcases first_ex l with h | ⟨k, x, h1, h2, h3⟩
      · exact .inl (by intro x hx; rcases List.mem_cons.1 hx with rfl | hx; exact ha; exact h x hx)
      · refine .inr ⟨k + 1, x, h1, h2, fun y hy => ?_⟩
        rw [List.take_succ_cons] at hy
        rcases List.mem_cons.1 hy with rfl | hy
        · exact ha
        · exact h3 y hy
    · exact .inr ⟨0, a, rfl, ha, by intro y hy; simp at hy⟩
theorem idx_none_uniq {P : Fact → Bool} {l : List Fact} {z : Int} (h : idxF l P z) (hn : ∀ x ∈ l, P x = false) : z = -1 := by
  rcases h with ⟨h, _⟩ | ⟨k, x, _, hx, hp, _⟩
  · exact h
  · rw [hn x (List.mem_of_getElem? hx)] at hp; cases hp
theorem mem_take_of {l : List Fact} {k m : Nat} {x : Fact} (hx : l[k]? = some x) (h : k < m) : x ∈ l.take m := List.mem_of_getElem? (i := k) (by rw [List.getElem?_take, if_pos h]; exact hx)
theorem idx_uniq {P : Fact → Bool} {l : List Fact} {z : Int} {k : Nat} {x : Fact} (h : idxF l P z) (hx : l[k]? = some x) (hp : P x = true) (hn : noneUpto l P k) : z = k := by
  rcases h with ⟨_, h⟩ | ⟨k', x', hz, hx', hp', hn'⟩
  · rw [h x (List.mem_of_getElem? hx)] at hp; cases hp
  · rcases Nat.lt_trichotomy k k' with h | h | h
    · rw [hn' x (mem_take_of hx h)] at hp; cases hp
    · rw [hz, h]
    · rw [hn x' (mem_take_of hx' h)] at hp'; cases hp'

set_option maxRecDepth 10000 in
set_option maxHeartbeats 2000000 in
theorem delF_any (l : List Fact) (known : Int) (g cap n kb base : Nat) (cs : Array Value) (w : World) (hb : Box w g cs 28) (hs : cs.size = cap * 8) (hl : l.length = n) (hnc : n ≤ cap) (hcm : cap ≤ maxLen)
    (hcur : ∀ m f, l[m]? = some f → CurF cs m f) (hkb : w.cell? ⟨kb, 0, none⟩ = some (.int .i64 known)) (hne : kb ≠ g) (hbase : base ≤ g) :
    Calls Try.prog 46 #[.slice (some ⟨g, 0, none⟩) n cap, .func (.func 48) #[] #[.pointer (some ⟨kb, 0, none⟩)]] w
      fun e w' => ∃ n', e = .returned (.slice (some ⟨g, 0, none⟩) n' cap) ∧ n' = (l.filter (stay known)).length ∧ w'.ownsRow base 28 8 (.slice (some ⟨g, 0, none⟩) n' cap) n' ((l.filter (stay known)).flatMap encF) ∧ Below base w w' := by
  have hgl := hb.lt
  have hL := Lib.hid hl
  have hSL : SL encF 8 w (some ⟨g, 0, none⟩) n cap l := ⟨hl, hnc, hcm, fun _ => ⟨g, 0, rfl, hgl⟩, fun b o e i x hx j v hv => by
    obtain ⟨rfl, rfl⟩ : g = b ∧ 0 = o := by simpa using e
    rw [Nat.zero_add]
    exact (hb.cell _).trans (hcur i x hx j v hv)⟩
  have hkl := World.block_lt_of_cell? w _ hkb
  simp only at hkl
  have hP : PredF w 48 #[.pointer (some ⟨kb, 0, none⟩)] (fun f => decide (f.kn > known)) := fun x W hW => upto1_any x kb known W ((hW.cell (p := ⟨kb, 0, none⟩) hkl).trans hkb)
  have hen : Enters Try.prog 48 := enters_of Try.func48 (by kernel_rfl) rfl
  have hI0 := indexF_any 48 #[.pointer (some ⟨kb, 0, none⟩)] (some ⟨g, 0, none⟩) n cap l (fun f => decide (f.kn > known)) w hen hSL hP
  have hcm2 := hcm
  unfold maxLen at hcm2
  rcases first_ex (P := fun f => decide (f.kn > known)) l with hno | ⟨k0, x0, hx0, hp0, hn0⟩
  · have HI := Lib.hid (hI0.mono (R' := fun e w' => e = .returned (.int .i64 (-1)) ∧ Below w.heap.size w w') (by rintro e w' ⟨z, rfl, hz, hB⟩; exact ⟨by rw [idx_none_uniq hz hno], hB⟩))
    have HN := Lib.hid (idx_none hno)
    clear hI0 hno hP hen
    go_enter Try.func46, Try.ntmps46
    go_wp2_with (go_at_call 52; refine HI.out.mono ?_; rintro e w1 ⟨rfl, hB⟩)
    go_ret
    refine ⟨n, rfl, by rw [HN.out, hL.out], ?_, hB.mono (by omega)⟩
    rw [HN.out]
    refine ⟨by rw [flat_len encF_len, hL.out], .inr ⟨g, cap, cs, rfl, hbase, (hb.below hB), hnc, hcm, hs, ?_⟩⟩
    rw [← hL.out]
    exact flat_take hcur (by rw [hL.out]; omega)
  · have HI := Lib.hid (hI0.mono (R' := fun e w' => e = .returned (.int .i64 k0) ∧ Below w.heap.size w w') (by rintro e w' ⟨z, rfl, hz, hB⟩; exact ⟨by rw [idx_uniq hz hx0 hp0 hn0], hB⟩))
    have hk0 : k0 < n := by rw [← hl]; exact (List.getElem?_eq_some_iff.1 hx0).1
    have hD0 : DelR l known g cap k0 (k0 + 1) w := by
      refine ⟨⟨cs, hb, hs, fun m f hf => ?_, fun m f _ hf => hcur m f hf⟩, by rw [idx_filter hx0 hp0 hn0, List.length_take]; omega⟩
      rw [idx_filter hx0 hp0 hn0, List.getElem?_take] at hf
      split at hf
      · exact hcur m f hf
      · cases hf
    have HC := Lib.hid (fun (x : Fact) (W : World) hk => upto1_any x kb known W hk)
    have t1 : ((k0 : Int) == -1) = false := by rw [beq_eq_false_iff_ne]; omega
    clear hI0 hP hx0 hp0 hn0 hSL hb hs hcur
    unfold Enters at hen
    go_enter Try.func46, Try.ntmps46
    go_wp2_with (go_at_call 52; refine HI.out.mono ?_; rintro e w1 ⟨rfl, hB⟩)
    go_loopw [5, 6] (fun ci cj wr => ∃ (i j : Nat), ci = .int .i64 i ∧ cj = .int .i64 j ∧ i < j ∧ j ≤ n ∧ DelR l known g cap i j wr ∧ Below base w wr ∧ wr.cell? ⟨kb, 0, none⟩ = some (.int .i64 known)) (fun _ cj _ => n - (intOf cj).toNat)
    case atStart => exact ⟨k0, k0 + 1, rfl, by go_num, by omega, by omega, hD0.below hB, hB.mono (by omega), (hB.cell (p := ⟨kb, 0, none⟩) hkl).trans hkb⟩
    case round =>
      clear hD0 hB t1 hkb
      obtain ⟨i, j, rfl, rfl, hij, hj, hD, hB, hkb⟩ := hrel
      obtain ⟨cs, hb, hs, _, hc2⟩ := id hD.cur
      by_cases hlt : j < n
      · obtain ⟨x, hx⟩ : ∃ x, l[j]? = some x := ⟨_, List.getElem?_eq_getElem (by rw [hL.out]; exact hlt)⟩
        obtain ⟨e0, e1, e2, e3, e4, e5, e6, e7⟩ := (hc2 j x (Nat.le_refl _) hx).at8 hb
        have HX := Lib.hid hx
        clear hx hc2
        have hkl2 := World.block_lt_of_cell? wr _ hkb
        simp only at hkl2
        have hgl2 := hb.lt
        obtain ⟨wv, hwv, hbk, hbox⟩ : ∃ wx, wr.alloc (.cells #[.int .i64 x.kd, .int .i64 x.sb, .int .i64 x.ob, .int .i64 x.val, .int .i64 x.vf, .int .i64 x.vt, .int .i64 x.kn, .int .i64 x.no] 28) = wx ∧ Below wr.heap.size wr wx ∧ Box wx wr.heap.size #[.int .i64 x.kd, .int .i64 x.sb, .int .i64 x.ob, .int .i64 x.val, .int .i64 x.vf, .int .i64 x.vt, .int .i64 x.kn, .int .i64 x.no] 28 := ⟨_, rfl, (Below.refl _ _).alloc (Nat.le_refl _) _, Box.new _ _ _⟩
        obtain ⟨d0, d1, d2, d3, d4, d5, d6, d7⟩ : At8 wv wr.heap.size 0 x := ⟨hbox.cell 0, hbox.cell 1, hbox.cell 2, hbox.cell 3, hbox.cell 4, hbox.cell 5, hbox.cell 6, hbox.cell 7⟩
        have hA8 : At8 wv wr.heap.size 0 x := ⟨d0, d1, d2, d3, d4, d5, d6, d7⟩
        simp only [Nat.zero_add] at d0 d1 d2 d3 d4 d5 d6 d7
        have hkv : wv.cell? ⟨kb, 0, none⟩ = some (.int .i64 known) := (hbk.cell (p := ⟨kb, 0, none⟩) hkl2).trans hkb
        have k1 : (j : Int) < (n : Int) := by omega
        have k2 : (i : Int) < (n : Int) := by omega
        have k3 : (0 : Int) ≤ (i : Int) := by omega
        have k4 : (0 : Int) ≤ (j : Int) := by omega
        have hwi : IntKind.i64.wrap ((i : Int) + 1) = (i : Int) + 1 := by rw [IntKind.wrap_i64]; omega
        have hwj : IntKind.i64.wrap ((j : Int) + 1) = (j : Int) + 1 := by rw [IntKind.wrap_i64]; omega
        have hc := HC.out x wv hkv
        cases hst : decide (x.kn > known)
        · rw [hst] at hc
          have HC1 := Lib.hid hc
          have HS : Hid (stay known x = true) := Lib.hid (by rw [stay_not, hst]; rfl)
          clear hc hst
          go_wp2_with (refine HC1.out.mono ?_; rintro e w' ⟨rfl, hB2⟩; obtain ⟨q0, q1, q2, q3, q4, q5, q6, q7⟩ := hA8.below hB2; simp only [Nat.zero_add] at q0 q1 q2 q3 q4 q5 q6 q7; have hD2 := (hD.below hbk).below hB2; have hb2 := (hb.below hbk).below hB2; have hth : ∀ q, q < cap * 8 → ∃ v, w'.cell? ⟨g, q, none⟩ = some v := fun q hq => ⟨_, (hb2.cell q).trans (Array.getElem?_eq_getElem (by omega))⟩; obtain ⟨v0, m0⟩ := hth (i * 8) (by omega); obtain ⟨v1, m1⟩ := hth (i * 8 + 1) (by omega); obtain ⟨v2, m2⟩ := hth (i * 8 + 2) (by omega); obtain ⟨v3, m3⟩ := hth (i * 8 + 3) (by omega); obtain ⟨v4, m4⟩ := hth (i * 8 + 4) (by omega); obtain ⟨v5, m5⟩ := hth (i * 8 + 5) (by omega); obtain ⟨v6, m6⟩ := hth (i * 8 + 6) (by omega); obtain ⟨v7, m7⟩ := hth (i * 8 + 7) (by omega); have gf : ∀ q, w'.frozen? ⟨g, q, none⟩ = false := fun q => hb2.frozen q; clear hth)
          have hBw : Below base w w' := (hB.trans (hbk.mono (by have := hB.size; omega))).trans (hB2.mono (by have := hB.size; have := hbk.size; omega))
          go_roundw
          case rel => exact ⟨i + 1, j + 1, by go_num, by go_num, by omega, by omega, hD2.keep HX.out HS.out hij (by omega), below_set8o hBw g _ hbase x, (World.cell?_of_block (w := w') (heap_S8o hne)).trans (((hbk.on hB2).cell (p := ⟨kb, 0, none⟩) hkl2).trans hkb)⟩
          case measure => simp [intOf]; omega
        · rw [hst] at hc
          have HC1 := Lib.hid hc
          have HS : Hid (stay known x = false) := Lib.hid (by rw [stay_not, hst]; rfl)
          clear hc hst
          go_wp2_with (refine HC1.out.mono ?_; rintro e w' ⟨rfl, hB2⟩)
          have hBw : Below base w w' := (hB.trans (hbk.mono (by have := hB.size; omega))).trans (hB2.mono (by have := hB.size; have := hbk.size; omega))
          go_roundw
          case rel => exact ⟨i, j + 1, rfl, by go_num, by omega, by omega, ((hD.below hbk).below hB2).strike HX.out HS.out, hBw, ((hbk.on hB2).cell (p := ⟨kb, 0, none⟩) hkl2).trans hkb⟩
          case measure => simp [intOf]; omega
      · obtain rfl : j = n := by omega
        have hD2 := Lib.hid hD
        have k2 : (i : Int) < (j : Int) := by omega
        have k3 : (0 : Int) ≤ (i : Int) := by omega
        have k5 : (i : Int) ≤ (j : Int) := by omega
        have k6 : (i : Int) ≤ (cap : Int) := by omega
        have k7 : (j : Int) ≤ (cap : Int) := by omega
        have hcl := fun ty => run_clear_facts wr ty g (i * 8) (j - i) (cap - i) (by omega) (fun q hq => by rw [hb.cell, Array.getElem?_eq_getElem (by omega)]; rfl) (fun q _ => hb.frozen _)
        obtain ⟨cs', hb', hs', hq'⟩ := box_setCells (zerosF (j - i)) (i * 8) wr cs hb
        clear hc2 hD hb
        go_wp2_with fail
        go_ret
        have hT : l.take j = l := List.take_of_length_le (by rw [hL.out]; exact Nat.le_refl _)
        have hi := hD2.out.i
        obtain ⟨cs2, hb2, hs2, hF, _⟩ := hD2.out.cur
        rw [hT] at hi hF
        have hcc : Hid (∀ q, q < i * 8 → cs'[q]? = cs2[q]?) := Lib.hid (fun q hq => by
          obtain ⟨csb, hbb, _, hqq⟩ := box_setCells (zerosF (j - i)) (i * 8) wr cs2 hb2
          have e : csb = cs' := by
            have h1 : Box _ g csb _ := hbb
            have h2 : Box _ g cs' _ := hb'
            unfold Box at h1 h2
            rw [h1] at h2
            injection h2 with h2
            injection h2
          rw [← e]; exact hqq q hq)
        refine ⟨i, rfl, hi.symm, ⟨by rw [flat_len encF_len, hi], .inr ⟨g, cap, cs', rfl, hbase, hb', by omega, hcm, by rw [hs']; exact hs, ?_⟩⟩, below_setCells hbase _ _ _ hB⟩
        rw [← hi]
        refine flat_take (fun m f hf jj v hv => ?_) (by rw [hi, hs', hs]; omega)
        have hm := (List.getElem?_eq_some_iff.1 hf).1
        have hjj : jj < 8 := (List.getElem?_eq_some_iff.1 hv).1
        rw [hcc.out _ (by omega)]
        exact hF m f hf jj v hv
end Go.Proofs.Ytfhekhjojdhmhaa
