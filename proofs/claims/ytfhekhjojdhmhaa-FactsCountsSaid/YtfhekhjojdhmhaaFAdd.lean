/- Contracts of facts.Add and of ref.Add. -/
import Derived.Test.YtfhekhjojdhmhaaFSame
import Derived.Test.YtfhekhjojdhmhaaApp
import Derived.OwnWalk
import Derived.Deep.RegionHeld3
import Derived.Deep.RegionLaw
import Derived.WalkKit
import Derived.WalkSpells
import Derived.WalkLawsBesides
import Derived.Deep.LoopGhost
import Derived.Deep.QuietTactic
import Derived.BigQuiet
import Derived.StillTailTactics
import Derived.Lib.Hide
import Derived.Outline
import Derived.Lib.QuietBelow
namespace Go.Proofs.Ytfhekhjojdhmhaa
open Go.RowKit

theorem info_fact : (Try.prog.info? 28).map (fun i => (i.zero, i.size, i.bytes)) = some (some (.agg #[.int .i64 0, .int .i64 0, .int .i64 0, .int .i64 0, .int .i64 0, .int .i64 0, .int .i64 0, .int .i64 0]), 8, 64) := by kernel_rfl
theorem clip_any (a : Option Addr) (n c : Nat) (w : World) (hc : n ≤ c) (_hm : c ≤ maxLen) : Calls Try.prog 34 #[.slice a n c] w fun e w' => e = .returned (.slice a n n) ∧ w' = w := by
  unfold maxLen at _hm
  go_enter Try.func34, Try.ntmps34
  go_wp2_with fail
  all_goals (first | (go_ret; exact ⟨rfl, rfl⟩) | skip)
def RetAdd (W : World) (l : List Fact) (f : Fact) (e : Ending) (w' : World) : Prop := ∃ v, e = .returned (.tuple #[v, .int .i64 (addErr l f)]) ∧ OwnSL encF 8 w' W.heap.size 28 v (addL l f) ∧ Below W.heap.size W w'
theorem addErr_chk {l : List Fact} {f : Fact} (h : checkF l ≠ 0) : addErr l f = checkF l := by unfold addErr; rw [if_pos h]
theorem addErr_bad {l : List Fact} {f : Fact} (h : checkF l = 0) (h2 : validB f = false) : addErr l f = 40 := by unfold addErr; rw [if_neg (by simp [h]), if_pos (by simp [h2])]
theorem addErr_ord {l : List Fact} {f x : Fact} (h : checkF l = 0) (h2 : validB f = true) (hx : l[l.length - 1]? = some x) (h3 : befB x f = false) : addErr l f = 41 := by
  unfold addErr; rw [if_neg (by simp [h]), if_neg (by simp [h2]), List.getLast?_eq_getElem?, hx]; simp [h3]
theorem addErr_ok {l : List Fact} {f x : Fact} (h : checkF l = 0) (h2 : validB f = true) (hx : l[l.length - 1]? = some x) (h3 : befB x f = true) : addErr l f = 0 := by
  unfold addErr; rw [if_neg (by simp [h]), if_neg (by simp [h2]), List.getLast?_eq_getElem?, hx]; simp [h3]
theorem addErr_nil {f : Fact} (h2 : validB f = true) : addErr [] f = 0 := by
  unfold addErr; rw [if_neg (by simp [checkF, ordB]), if_neg (by simp [h2])]; rfl
theorem addL_err {l : List Fact} {f : Fact} {x : Int} (h : addErr l f = x) (hx : x ≠ 0) : addL l f = [] := by unfold addL; rw [if_neg (by rw [h]; exact hx)]
theorem addL_ok {l : List Fact} {f : Fact} (h : addErr l f = 0) : addL l f = l ++ [f] := by unfold addL; rw [if_pos h]
theorem checkF_cases (l : List Fact) : checkF l = 0 ∨ checkF l = 40 ∨ checkF l = 41 := by unfold checkF; repeat' split; all_goals simp

theorem info8 : ∃ i, Try.prog.info? 28 = some i ∧ i.zero = some (.agg #[.int .i64 0, .int .i64 0, .int .i64 0, .int .i64 0, .int .i64 0, .int .i64 0, .int .i64 0, .int .i64 0]) ∧ i.size = 8 ∧ i.bytes = 64 := by
  obtain ⟨i, h1, h2, h3, h4⟩ := info_parts info_fact
  exact ⟨i, h1, h2, h3, h4⟩
/-- The cells of a fresh slice of one fact. -/
theorem new8 (w : World) (f : Fact) (t : TypeId) : ∀ j u, (encF f)[j]? = some u → (w.alloc (.cells #[.int .i64 f.kd, .int .i64 f.sb, .int .i64 f.ob, .int .i64 f.val, .int .i64 f.vf, .int .i64 f.vt, .int .i64 f.kn, .int .i64 f.no] t)).cell? (Addr.add ⟨w.heap.size, 0, none⟩ j) = some u := by
  intro j u hj
  have h := (Box.new w #[.int .i64 f.kd, .int .i64 f.sb, .int .i64 f.ob, .int .i64 f.val, .int .i64 f.vf, .int .i64 f.vt, .int .i64 f.kn, .int .i64 f.no] t).cell (0 + j)
  rw [show (Addr.add ⟨w.heap.size, 0, none⟩ j) = ⟨w.heap.size, 0 + j, none⟩ by (simp [Addr.add]; try omega), h, Nat.zero_add]
  rw [← hj]; simp [encF]
theorem new8d (w : World) (f : Fact) (t : TypeId) : ∀ j u, (encF f)[j]? = some u → (w.alloc (.cells #[.int .i64 f.kd, .int .i64 f.sb, .int .i64 f.ob, .int .i64 f.val, .int .i64 f.vf, .int .i64 f.vt, .int .i64 f.kn, .int .i64 f.no] t)).drew.cell? (Addr.add ⟨w.heap.size, 0, none⟩ j) = some u := new8 w f t
theorem encF_one (f : Fact) : ∀ u ∈ encF f, u.oneCell' = true := by intro u hu; simp [encF] at hu; rcases hu with rfl | rfl | rfl | rfl | rfl | rfl | rfl | rfl <;> rfl
theorem SL.flat {α : Type} {enc : α → List Value} {k : Nat} {w : World} {a : Option Addr} {n c : Nat} {l : List α} (h : SL enc k w a n c l) (hk : ∀ x, (enc x).length = k) (k0 : 0 < k) (b : Addr) (hb : a = some b) (hl : 0 < n → True) : ∀ j v, (l.flatMap enc)[j]? = some v → w.cell? (b.add j) = some v := by
  intro j v hj
  have hjl := (List.getElem?_eq_some_iff.1 hj).1
  rw [flat_len hk, h.len] at hjl
  have hn : 0 < n := by rcases Nat.eq_zero_or_pos n with h0 | h0; · subst h0; simp at hjl
                        · exact h0
  obtain ⟨b', o', e, hlt⟩ := h.at' hn
  have hi : j / k < n := Nat.div_lt_of_lt_mul (by rw [Nat.mul_comm]; exact hjl)
  obtain ⟨x, hx⟩ := h.get hi
  have h1 := flat_get hk l (j / k) x hx (j % k) (Nat.mod_lt _ k0)
  have e1 : j / k * k + j % k = j := by rw [Nat.mul_comm]; exact Nat.div_add_mod j k
  rw [e1, hj] at h1
  have h2 := h.cell b' o' e (j / k) x hx (j % k) v h1.symm
  rw [hb] at e; injection e with e; subst e
  rw [show (Addr.add ⟨b', o', none⟩ j) = ⟨b', o' + j, none⟩ by simp [Addr.add]]
  rw [Nat.add_assoc, e1] at h2
  exact h2

set_option maxRecDepth 10000 in
set_option maxHeartbeats 2000000 in
theorem add_any (a0 : Option Addr) (n0 c0 : Nat) (l : List Fact) (f : Fact) (w : World) (h0 : SL encF 8 w a0 n0 c0 l) (hn : n0 ≤ 1000000) :
    Calls Try.prog 13 #[.slice a0 n0 c0, factV f] w (RetAdd w l f) := by
  have hm0 := h0.mx
  have hc0 := h0.cap
  have hl0 := Lib.hid h0.len
  have hal : Below w.heap.size w (w.alloc (.cells #[.int .i64 f.kd, .int .i64 f.sb, .int .i64 f.ob, .int .i64 f.val, .int .i64 f.vf, .int .i64 f.vt, .int .i64 f.kn, .int .i64 f.no] 28)) := (Below.refl _ _).alloc (Nat.le_refl _) _
  have hbx := Box.new w #[.int .i64 f.kd, .int .i64 f.sb, .int .i64 f.ob, .int .i64 f.val, .int .i64 f.vf, .int .i64 f.vt, .int .i64 f.kn, .int .i64 f.no] 28
  obtain ⟨w1, hw1⟩ : ∃ w1, w.alloc (.cells #[.int .i64 f.kd, .int .i64 f.sb, .int .i64 f.ob, .int .i64 f.val, .int .i64 f.vf, .int .i64 f.vt, .int .i64 f.kn, .int .i64 f.no] 28) = w1 := ⟨_, rfl⟩
  rw [hw1] at hal hbx
  have HW := Lib.hid hw1
  have HCK := Lib.hid (check_any a0 n0 c0 l w1 (h0.below hal))
  by_cases hck : checkF l = 0
  · rw [hck] at HCK
    have HK := Lib.hid hck
    clear hck hw1
    have HFT := fits_any f
    cases hv : validB f
    · rw [hv] at HFT
      have HFT := Lib.hid HFT
      have HV := Lib.hid hv
      clear hv
      go_enter Try.func13, Try.ntmps13
      go_wp2_with (first | (go_at_call 15; rw [HW.out]; refine HCK.out.mono ?_; rintro e w2 ⟨rfl, hB⟩; have d := (show At8 w1 w.heap.size 0 f from ⟨hbx.cell 0, hbx.cell 1, hbx.cell 2, hbx.cell 3, hbx.cell 4, hbx.cell 5, hbx.cell 6, hbx.cell 7⟩).below hB; obtain ⟨d0, d1, d2, d3, d4, d5, d6, d7⟩ := d) | (go_at_call 32; refine (HFT.out w2).mono ?_; rintro e w3 ⟨rfl, hB3⟩))
      (refine bodyPost_ret (v := .tuple #[.slice none 0 0, .int .i64 40]) (by simp [results, Try.results13, go_sem]) rfl ?_)
      exact ⟨_, by rw [addErr_bad HK.out HV.out], by rw [addL_err (addErr_bad HK.out HV.out) (by decide)]; exact OwnSL.nil _ _ _ _ _, (hal.on hB).on hB3⟩
    · rw [hv] at HFT
      have HFT := Lib.hid HFT
      have HV := Lib.hid hv
      clear hv
      have hW3 : ∀ w2 w3, Below w1.heap.size w1 w2 → Below w2.heap.size w2 w3 → (w3.cell? ⟨w.heap.size, 0, none⟩ = some (.int .i64 f.kd) ∧ w3.cell? ⟨w.heap.size, 1, none⟩ = some (.int .i64 f.sb) ∧ w3.cell? ⟨w.heap.size, 2, none⟩ = some (.int .i64 f.ob) ∧ w3.cell? ⟨w.heap.size, 3, none⟩ = some (.int .i64 f.val) ∧ w3.cell? ⟨w.heap.size, 4, none⟩ = some (.int .i64 f.vf) ∧ w3.cell? ⟨w.heap.size, 5, none⟩ = some (.int .i64 f.vt) ∧ w3.cell? ⟨w.heap.size, 6, none⟩ = some (.int .i64 f.kn) ∧ w3.cell? ⟨w.heap.size, 7, none⟩ = some (.int .i64 f.no)) := fun w2 w3 hB hB3 => (show At8 w1 w.heap.size 0 f from ⟨hbx.cell 0, hbx.cell 1, hbx.cell 2, hbx.cell 3, hbx.cell 4, hbx.cell 5, hbx.cell 6, hbx.cell 7⟩).below (hB.on hB3)
      have HW3 := Lib.hid hW3
      clear hW3
      obtain ⟨i28, hi28, hz280, hz281, hz282⟩ := info8
      by_cases hp : 0 < n0
      · obtain ⟨b0, o0, rfl, hb0⟩ := h0.at' hp
        obtain ⟨x, hx⟩ := h0.get (i := n0 - 1) (by omega)
        have HX := Lib.hid hx
        have hw1 : IntKind.i64.wrap ((n0 : Int) - 1) = (n0 : Int) - 1 := by rw [IntKind.wrap_i64]; omega
        have t5 : (0 : Int) ≤ (n0 : Int) - 1 := by omega
        have t6 : (n0 : Int) - 1 < n0 := by omega
        have t7 : ((n0 : Int) - 1).toNat = n0 - 1 := by omega
        have t8 : (0 : Int) < (n0 : Int) := by omega
        have t10 : (1 : Int) ≤ (n0 : Int) := by omega
        go_enter Try.func13, Try.ntmps13
        go_wp2_with (first | (go_at_call 15; rw [HW.out]; refine HCK.out.mono ?_; rintro e w2 ⟨rfl, hB⟩; have d := (show At8 w1 w.heap.size 0 f from ⟨hbx.cell 0, hbx.cell 1, hbx.cell 2, hbx.cell 3, hbx.cell 4, hbx.cell 5, hbx.cell 6, hbx.cell 7⟩).below hB; obtain ⟨d0, d1, d2, d3, d4, d5, d6, d7⟩ := d) | (go_at_call 32; refine (HFT.out w2).mono ?_; rintro e w3 ⟨rfl, hB3⟩))
        clear d0 d1 d2 d3 d4 d5 d6 d7
        have hA1 := ((h0.below hal).below hB |>.below hB3).fact hx
        have hA2 := HW3.out _ _ hB hB3
        clear hx
        go_region_held3 (fun w' => (w'.cell? ⟨b0, o0 + (n0 - 1) * 8, none⟩ = some (.int .i64 x.kd) ∧ w'.cell? ⟨b0, o0 + (n0 - 1) * 8 + 1, none⟩ = some (.int .i64 x.sb) ∧ w'.cell? ⟨b0, o0 + (n0 - 1) * 8 + 2, none⟩ = some (.int .i64 x.ob) ∧ w'.cell? ⟨b0, o0 + (n0 - 1) * 8 + 3, none⟩ = some (.int .i64 x.val) ∧ w'.cell? ⟨b0, o0 + (n0 - 1) * 8 + 4, none⟩ = some (.int .i64 x.vf) ∧ w'.cell? ⟨b0, o0 + (n0 - 1) * 8 + 5, none⟩ = some (.int .i64 x.vt) ∧ w'.cell? ⟨b0, o0 + (n0 - 1) * 8 + 6, none⟩ = some (.int .i64 x.kn) ∧ w'.cell? ⟨b0, o0 + (n0 - 1) * 8 + 7, none⟩ = some (.int .i64 x.no)) ∧ (w'.cell? ⟨w.heap.size, 0, none⟩ = some (.int .i64 f.kd) ∧ w'.cell? ⟨w.heap.size, 1, none⟩ = some (.int .i64 f.sb) ∧ w'.cell? ⟨w.heap.size, 2, none⟩ = some (.int .i64 f.ob) ∧ w'.cell? ⟨w.heap.size, 3, none⟩ = some (.int .i64 f.val) ∧ w'.cell? ⟨w.heap.size, 4, none⟩ = some (.int .i64 f.vf) ∧ w'.cell? ⟨w.heap.size, 5, none⟩ = some (.int .i64 f.vt) ∧ w'.cell? ⟨w.heap.size, 6, none⟩ = some (.int .i64 f.kn) ∧ w'.cell? ⟨w.heap.size, 7, none⟩ = some (.int .i64 f.no)) ∧ Below w3.heap.size w3 w')
          (first | exact ⟨hA1, hA2, (Below.refl _ _).drew⟩ | exact keep2F (o2 := 0) (by assumption) (by assumption))
          (first | (go_at_call 33; refine (compare_any _ _ _).mono ?_; rintro e w' ⟨rfl, hb⟩))
        have hBr : Below w.heap.size w w' := (((hal.on hB).on hB3).on (Below.refl _ _).drew).on hb
        have hS := h0.below hBr
        have d := (show At8 w3 w.heap.size 0 f from hA2).below ((Below.refl _ _).drew.on hb)
        obtain ⟨d0, d1, d2, d3, d4, d5, d6, d7⟩ := d
        clear hb hA1 hA2 hB hB3 HCK HFT HW3
        simp only [Nat.zero_add] at d0 d1 d2 d3 d4 d5 d6 d7
        cases hbf : befB x f
        · have t9 : 0 ≤ cmpF x f := by have := cmpF_geq x f; rw [hbf] at this; simpa using this
          have HBF := Lib.hid hbf
          clear hbf
          go_wp2_with fail
          all_goals first | (exfalso; omega) | (
            (refine bodyPost_ret (v := .tuple #[.slice none 0 0, .int .i64 41]) (by simp [results, Try.results13, go_sem]) rfl ?_)
            exact ⟨_, by rw [addErr_ord HK.out HV.out (by rw [hl0.out]; exact HX.out) HBF.out], by rw [addL_err (addErr_ord HK.out HV.out (by rw [hl0.out]; exact HX.out) HBF.out) (by decide)]; exact OwnSL.nil _ _ _ _ _, hBr⟩)
        · have t9 : ¬ 0 ≤ cmpF x f := by have := cmpF_geq x f; rw [hbf] at this; simpa using this
          have HBF := Lib.hid hbf
          clear hbf
          go_wp2_with fail
          all_goals first | (exfalso; omega) | skip
          go_region_law (first | ((refine step_append_full rfl _ _ 22 rfl 28 i28 _ 8 64 Try.underlying22 hi28 hz280 hz281 hz282 rfl _ _ (l.flatMap encF) rfl (by rw [flat_len encF_len, hl0.out]) (fun h => (by first | exact ⟨_, rfl⟩ | omega)) (fun b hb => (hS.below (by first | exact ((Below.refl _ _).alloc (Nat.le_refl _) _).drew | exact ((Below.refl _ _).drew.alloc (Nat.le_refl _) _))).flat encF_len (by decide) b hb (fun _ => trivial)) ⟨_, 0, none⟩ 1 1 (encF f) rfl rfl (by first | exact new8d _ _ _ | exact new8 _ _ _) (by omega) (by unfold maxLen; omega) (by omega) ?_; intro v' w5 hown' hbel5)) | (go_simp; go_at_call 34; refine (clip_any _ _ _ _ hc0 hm0).mono ?_; rintro e w4 ⟨rfl, rfl⟩))
          all_goals
            go_wp2_with fail
            have hBn := (hBr.on (by first | exact ((Below.refl _ _).alloc (Nat.le_refl _) _).drew | exact ((Below.refl _ _).drew.alloc (Nat.le_refl _) _))).on hbel5
            have hO := ownsRow_mono' hown' (base' := w.heap.size) (by have := hBr.size; simp; omega)
            rw [← hl0.out] at hO
            (refine bodyPost_ret (v := .tuple #[v', .int .i64 0]) (by simp [results, Try.results13, go_sem]) rfl ?_)
            exact ⟨_, by rw [addErr_ok HK.out HV.out (by rw [hl0.out]; exact HX.out) HBF.out], by rw [addL_ok (addErr_ok HK.out HV.out (by rw [hl0.out]; exact HX.out) HBF.out)]; exact OwnSL.snoc hO, hBn⟩
      · obtain rfl : n0 = 0 := by omega
        have hl00 : l = [] := List.eq_nil_of_length_eq_zero hl0.out
        subst hl00
        go_enter Try.func13, Try.ntmps13
        go_wp2_with (first | (go_quiet (fail)) | (go_at_call 15; rw [HW.out]; refine HCK.out.mono ?_; rintro e w2 ⟨rfl, hB⟩; have d := (show At8 w1 w.heap.size 0 f from ⟨hbx.cell 0, hbx.cell 1, hbx.cell 2, hbx.cell 3, hbx.cell 4, hbx.cell 5, hbx.cell 6, hbx.cell 7⟩).below hB; obtain ⟨d0, d1, d2, d3, d4, d5, d6, d7⟩ := d) | (go_at_call 32; refine (HFT.out w2).mono ?_; rintro e w3 ⟨rfl, hB3⟩; clear d0 d1 d2 d3 d4 d5 d6 d7; obtain ⟨d0, d1, d2, d3, d4, d5, d6, d7⟩ := HW3.out _ _ hB hB3))
        obtain ⟨wq, hwq⟩ : ∃ wq, w3.drewN nq = wq := ⟨_, rfl⟩
        have hBq : Below w3.heap.size w3 wq := hwq ▸ Below.drewN0 _ _
        have hBr : Below w.heap.size w wq := ((hal.on hB).on hB3).on hBq
        have hS := h0.below hBr
        have d := (show At8 w3 w.heap.size 0 f from ⟨d0, d1, d2, d3, d4, d5, d6, d7⟩).below hBq
        rw [hwq]
        clear d0 d1 d2 d3 d4 d5 d6 d7 hwq hB hB3 HCK HFT HW3
        obtain ⟨d0, d1, d2, d3, d4, d5, d6, d7⟩ := d
        simp only [Nat.zero_add] at d0 d1 d2 d3 d4 d5 d6 d7
        go_region_law (first | ((refine step_append_full rfl _ _ 22 rfl 28 i28 _ 8 64 Try.underlying22 hi28 hz280 hz281 hz282 rfl _ _ (([] : List Fact).flatMap encF) rfl (by rw [flat_len encF_len, hl0.out]) (fun h => (by first | exact ⟨_, rfl⟩ | omega)) (fun b hb => (hS.below (by first | exact ((Below.refl _ _).alloc (Nat.le_refl _) _).drew | exact ((Below.refl _ _).drew.alloc (Nat.le_refl _) _))).flat encF_len (by decide) b hb (fun _ => trivial)) ⟨_, 0, none⟩ 1 1 (encF f) rfl rfl (by first | exact new8d _ _ _ | exact new8 _ _ _) (by omega) (by unfold maxLen; omega) (by omega) ?_; intro v' w5 hown' hbel5)) | (go_simp; go_at_call 34; refine (clip_any _ _ _ _ hc0 hm0).mono ?_; rintro e w4 ⟨rfl, rfl⟩))
        all_goals
          go_wp2_with fail
          have hBn := (hBr.on (by first | exact ((Below.refl _ _).alloc (Nat.le_refl _) _).drew | exact ((Below.refl _ _).drew.alloc (Nat.le_refl _) _))).on hbel5
          have hO := ownsRow_mono' hown' (base' := w.heap.size) (by have := hBr.size; simp; omega)
          rw [← hl0.out] at hO
          (refine bodyPost_ret (v := .tuple #[v', .int .i64 0]) (by simp [results, Try.results13, go_sem]) rfl ?_)
          exact ⟨_, by rw [addErr_nil HV.out], by rw [addL_ok (addErr_nil HV.out)]; exact OwnSL.snoc hO, hBn⟩
  · have HK := Lib.hid hck
    have hne : (checkF l != 0) = true := by simp [hck]
    clear hck hw1
    go_enter Try.func13, Try.ntmps13
    go_wp2_with (go_at_call 15; rw [HW.out]; refine HCK.out.mono ?_; rintro e w2 ⟨rfl, hB⟩)
    (refine bodyPost_ret (v := .tuple #[.slice none 0 0, .int .i64 (checkF l)]) (by simp [results, Try.results13, go_sem]) rfl ?_)
    exact ⟨_, by rw [addErr_chk HK.out], by rw [addL_err (addErr_chk HK.out) HK.out]; exact OwnSL.nil _ _ _ _ _, hal.on hB⟩
end Go.Proofs.Ytfhekhjojdhmhaa
