/- Contract of ref.Find. -/
import Derived.Test.YtkekkbbdhdamjaaPList
import Derived.WalkKit
import Derived.WalkSpells
import Derived.WalkLawsBesides
import Derived.Deep.LoopGhost
import Derived.Deep.QuietTactic
import Derived.BigQuiet
import Derived.StillTailTactics
import Derived.Lib.Hide
import Derived.Outline
import Derived.Lib.QuietBelow
namespace Go.Proofs.Ytkekkbbdhdamjaa
open Go.RowKit

theorem inc_lt {l : List (List Int)} (h : Inc l) {i j : Nat} {x y : List Int} (hij : i < j) (hx : l[i]? = some x) (hy : l[j]? = some y) : ltP x y = true := by
  obtain ⟨h1, rfl⟩ := List.getElem?_eq_some_iff.1 hx
  obtain ⟨h2, rfl⟩ := List.getElem?_eq_some_iff.1 hy
  exact List.pairwise_iff_getElem.1 h i j h1 h2 hij
/-- All ahead of k are less than p; none from k on is. -/
structure Cut (l : List (List Int)) (p : List Int) (lo hi : Nat) : Prop where
  below : ∀ i a, i < lo → l[i]? = some a → ltP a p = true
  above : ∀ i a, hi ≤ i → l[i]? = some a → ltP a p = false
theorem Cut.start (l : List (List Int)) (p : List Int) : Cut l p 0 l.length := ⟨fun i a hi => by omega, fun i a hi h => by rw [List.getElem?_eq_none (by omega)] at h; cases h⟩
theorem Cut.left {l : List (List Int)} {p : List Int} {lo hi t : Nat} {u : List Int} (h : Cut l p lo hi) (hl : Inc l) (hu : l[t]? = some u) (h1 : ltP u p = true) : Cut l p (t + 1) hi :=
  ⟨fun i a hi ha => by
    by_cases e : i = t
    · subst e; rw [hu] at ha; injection ha with ha; subst ha; exact h1
    · exact ltP_trans (inc_lt hl (by omega) ha hu) h1, h.above⟩
theorem Cut.right {l : List (List Int)} {p : List Int} {lo hi t : Nat} {u : List Int} (h : Cut l p lo hi) (hl : Inc l) (hu : l[t]? = some u) (h1 : ltP u p = false) : Cut l p lo t :=
  ⟨h.below, fun i a hi ha => by
    by_cases e : i = t
    · subst e; rw [hu] at ha; injection ha with ha; subst ha; exact h1
    · cases e2 : ltP a p
      · rfl
      · rw [ltP_trans (inc_lt hl (by omega) hu ha) e2] at h1; cases h1⟩
theorem Cut.mem {l : List (List Int)} {p : List Int} {k : Nat} (h : Cut l p k k) (hl : Inc l) : decide (p ∈ l) = match l[k]? with | some u => decide (u = p) | none => false := by
  rw [Bool.eq_iff_iff, decide_eq_true_eq]
  constructor
  · intro hm
    obtain ⟨i, hi, e⟩ := List.getElem_of_mem hm
    have hi' : l[i]? = some p := by rw [List.getElem?_eq_getElem hi, e]
    have hge : k ≤ i := by
      refine Classical.byContradiction fun hn => ?_
      have := h.below i p (by omega) hi'
      rw [ltP_irrefl] at this; cases this
    by_cases e2 : i = k
    · subst e2; rw [hi']; simp
    · exfalso
      have hk : k < l.length := by omega
      have := h.above k l[k] (Nat.le_refl _) (List.getElem?_eq_getElem hk)
      rw [inc_lt hl (show k < i by omega) (List.getElem?_eq_getElem hk) hi'] at this; cases this
  · intro h2
    cases hk : l[k]? with
    | none => rw [hk] at h2; cases h2
    | some u => rw [hk] at h2; simp only [decide_eq_true_eq] at h2; subst h2; exact List.mem_of_getElem? hk

def RetFind (W : World) (l : List (List Int)) (p : List Int) (e : Ending) (w' : World) : Prop := ∃ k q : Nat, e = .returned (.tuple #[.int .i64 k, .bool (decide (p ∈ l))]) ∧ k ≤ l.length ∧ Cut l p k k ∧ w' = W.drewN q
theorem ordL_lt (a b : List Int) : decide (ordL a b < 0) = ltP a b := rfl

set_option maxHeartbeats 4000000 in
theorem find_any (a0 a1 : Option Addr) (m c n d : Nat) (l : List (List Int)) (p : List Int) (W : World) (h0 : Rows W a0 m c l) (h1 : Ints W a1 n d p) (hm : m ≤ 1000000) (hl : Inc l) :
    Calls Try.prog 27 #[.slice a0 m c, .slice a1 n d] W (RetFind W l p) := by
  have hl0 := Lib.hid h0.len
  have HI := Lib.hid hl
  clear hl
  go_enter Try.func27, Try.ntmps27
  go_wp2_with fail
  go_loopw [6, 7] (fun lo hi wr => ∃ x y q : Nat, lo = .int .i64 x ∧ hi = .int .i64 y ∧ x ≤ y ∧ y ≤ m ∧ Hid (Cut l p x y) ∧ wr = W.drewN q) (fun lo hi _ => (intOf hi).toNat - (intOf lo).toNat)
  case atStart => exact ⟨0, m, 0, rfl, rfl, by omega, by omega, Lib.hid (by have := Cut.start l p; rw [hl0.out] at this; exact this), rfl⟩
  case round =>
    obtain ⟨x, y, q, rfl, rfl, hxy, hym, HC, rfl⟩ := hrel
    by_cases hlt : x < y
    · obtain ⟨t, ht⟩ : ∃ t, (x + y) / 2 = t := ⟨_, rfl⟩
      have htl : x ≤ t := by omega
      have hth : t < y := by omega
      have s5 : ((x : Int) + (y : Int)) / 2 = (t : Int) := by omega
      have s0 : (0 : Int) ≤ (t : Int) := by omega
      have s1 : (t : Int) < (m : Int) := by omega
      have s2 : (x : Int) < (y : Int) := by omega
      obtain ⟨b0, o0, rfl, _⟩ := h0.at' (by omega)
      obtain ⟨u, hu⟩ := h0.has (i := t) (by omega)
      obtain ⟨ai, ni, ci, e0, hI0⟩ := h0.get hu
      have hc := order_any ai a1 ni ci n d u p (W.drewN q) (hI0.drewN q) (h1.drewN q)
      obtain ⟨o, ho⟩ : ∃ o, ordL u p = o := ⟨_, rfl⟩
      rw [ho] at hc
      have HU := Lib.hid hu
      clear hu ht
      cases hb : ltP u p
      · have HC2 := Lib.hid (HC.out.right HI.out HU.out hb)
        have hb' : decide (o < 0) = false := by rw [← ho]; exact hb
        clear hb ho
        go_wp2_with fail
        refine hc.mono ?_
        rintro e w1 ⟨rfl, q1, rfl⟩
        clear hc
        go_wp2_with fail
        go_roundw
        case rel => exact ⟨x, t, _, rfl, rfl, by omega, by omega, HC2, by first | rfl | exact World.drewN_drewN _ _ _⟩
        case measure => simp [intOf]; omega
      · have HC2 := Lib.hid (HC.out.left HI.out HU.out hb)
        have hb' : decide (o < 0) = true := by rw [← ho]; exact hb
        clear hb ho
        go_wp2_with fail
        refine hc.mono ?_
        rintro e w1 ⟨rfl, q1, rfl⟩
        clear hc
        go_wp2_with fail
        go_roundw
        case rel => exact ⟨t + 1, y, _, by go_num, rfl, by omega, by omega, HC2, by first | rfl | exact World.drewN_drewN _ _ _⟩
        case measure => simp [intOf]; omega
    · obtain rfl : x = y := by omega
      have hmem := HC.out.mem HI.out
      by_cases hxm : x < m
      · have s1 : (x : Int) < (m : Int) := by omega
        have s0 : (0 : Int) ≤ (x : Int) := by omega
        obtain ⟨b0, o0, rfl, _⟩ := h0.at' (by omega)
        obtain ⟨u, hu⟩ := h0.has (i := x) (by omega)
        obtain ⟨ai, ni, ci, e0, hI0⟩ := h0.get hu
        rw [hu] at hmem
        have hd := ordL_dec u p
        have hc := order_any ai a1 ni ci n d u p (W.drewN q) (hI0.drewN q) (h1.drewN q)
        obtain ⟨o, ho⟩ : ∃ o, ordL u p = o := ⟨_, rfl⟩
        rw [ho] at hc hd
        have HM : Hid (decide (p ∈ l) = decide (o = 0)) := Lib.hid (by rw [hmem, hd])
        clear hmem hd ho hu
        go_wp2_with fail
        refine hc.mono ?_
        rintro e w1 ⟨rfl, q1, rfl⟩
        clear hc
        go_wp2_with fail
        (refine bodyPost_ret (v := .tuple #[.int .i64 x, .bool (o == 0)]) (by simp [results, Try.results27, go_sem]) rfl ?_)
        exact ⟨x, _, by rw [HM.out, show (o == 0) = decide (o = 0) by rw [Bool.eq_iff_iff]; simp], by rw [hl0.out]; omega, HC.out, by first | rfl | exact World.drewN_drewN _ _ _⟩
      · have s1 : ¬ (x : Int) < (m : Int) := by omega
        have HM : Hid (decide (p ∈ l) = false) := Lib.hid (by rw [hmem, List.getElem?_eq_none (by rw [hl0.out]; omega)])
        clear hmem
        go_wp2_with fail
        (refine bodyPost_ret (v := .tuple #[.int .i64 x, .bool false]) (by simp [results, Try.results27, go_sem]) rfl ?_)
        exact ⟨x, q, by rw [HM.out], by rw [hl0.out]; omega, HC.out, rfl⟩
end Go.Proofs.Ytkekkbbdhdamjaa
