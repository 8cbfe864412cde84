/- Contract of facts.Points. -/
import Derived.Test.YtfhekhjojdhmhaaFVal
import Derived.Test.YtfhekhjojdhmhaaFPtR
import Derived.WalkKit
import Derived.WalkSpells
import Derived.WalkLawsBesides
import Derived.Deep.LoopGhost
import Derived.Deep.QuietTactic
import Derived.BigQuiet
import Derived.StillTailTactics
import Derived.Lib.Hide
import Derived.Outline
import Derived.Lib.QuietBelow
namespace Go.Proofs.Ytfhekhjojdhmhaa
open Go.RowKit

theorem rangeAt_below {w w' : World} {b o : Nat} {vs : List Value} (h : w.rangeAt b o vs) (hb : Below w.heap.size w w') (hl : b < w.heap.size) : w'.rangeAt b o vs := fun j v hv => (hb.cell (p := ⟨b, o + j, none⟩) hl).trans (h j v hv)
theorem rangeAt_grown {w w' : World} {b o : Nat} {vs : List Value} {row : Option Nat} (h : w.rangeAt b o vs) (hg : w.grownBy w' row) (hl : b < w.heap.size) (hne : row ≠ some b) : w'.rangeAt b o vs := fun j v hv => (World.cell?_of_block (w := w) (hg.block b hl (Ne.symm hne))).trans (h j v hv)
theorem size_setCells {b : Nat} : ∀ (vs : List Value) (o : Nat) (w : World), (w.setCells b o vs).heap.size = w.heap.size
  | [], _, _ => rfl
  | v :: r, o, w => (size_setCells r (o + 1) _).trans (by simp)
/-- A row of 1024 numbers is stored in a new variable. -/
theorem store_row (w : World) (vs : List Value) (hl : vs.length = 1024) (ho : ∀ v ∈ vs, v.oneCell' = true) :
    (storeCells ⟨w.heap.size, 0, none⟩ vs).run Try.prog (w.alloc (.cells Try.zeroCells70 70)) = .ok () ((w.alloc (.cells Try.zeroCells70 70)).setCells w.heap.size 0 vs) := by
  have hth := (Box.new w Try.zeroCells70 70).there
  rw [zero70] at hth
  have := run_storeCells_cells (P := Try.prog) w.heap.size 0 vs 0 (w.alloc (.cells Try.zeroCells70 70)) (fun j hj => by simpa using (hth j (by omega)).1) (fun j hj => by simp) ho
  simpa only [Nat.add_zero] using this
theorem range_row (w : World) (vs : List Value) (hl : vs.length = 1024) : ((w.alloc (.cells Try.zeroCells70 70)).setCells w.heap.size 0 vs).rangeAt w.heap.size 0 vs := by
  have hth := (Box.new w Try.zeroCells70 70).there
  rw [zero70] at hth
  exact World.rangeAt_setCells_same _ _ _ _ (by rw [hl]; exact hth)
theorem rowV_list (l : List Fact) (k : Key) (known : Int) {d : Nat} (h : d < 1024) : (rowV l k known).toList[d]? = some (.int .i64 (valAt l k known d)) := by rw [Array.getElem?_toList]; exact rowV_get l k known h

set_option maxRecDepth 20000 in
set_option maxHeartbeats 4000000 in
theorem points_any (a0 : Option Addr) (n0 c0 : Nat) (l : List Fact) (k : Key) (from' to known : Int) (w : World) (h0 : SL encF 8 w a0 n0 c0 l) :
    Calls Try.prog 21 #[.slice a0 n0 c0, keyV k, .int .i64 from', .int .i64 to, .int .i64 known] w (RetSL encP 2 w 60 (pointsL l k from' to known)) := by
  have hal : Below w.heap.size w (w.alloc (.cells #[.int .i64 k.kd, .int .i64 k.sb, .int .i64 k.ob] 24)) := ((Below.refl _ _).alloc (Nat.le_refl _) _)
  have hK0 : K3 (w.alloc (.cells #[.int .i64 k.kd, .int .i64 k.sb, .int .i64 k.ob] 24)) w.heap.size k := Box3 (Box.new _ _ _)
  obtain ⟨g0, g1, g2⟩ := hK0
  obtain ⟨i2, hi2, hz20, hz21, hz22⟩ := info2
  obtain ⟨f0, hmax⟩ : ∃ f0 : Nat, max (0 : Int) from' = f0 := ⟨(max 0 from').toNat, by omega⟩
  have HM0 : Hid ((max (0 : Int) from').toNat = f0) := Lib.hid (by omega)
  obtain ⟨t0, hmin⟩ : ∃ t0 : Int, min to 1024 = t0 := ⟨_, rfl⟩
  have HMI : Hid (min to 1024 = t0) := Lib.hid hmin
  have HC := Lib.hid (values_any a0 n0 c0 l k known (w.alloc (.cells #[.int .i64 k.kd, .int .i64 k.sb, .int .i64 k.ob] 24)) (h0.below hal))
  have hl7 := rowV_len l k known
  have hs7 := rowV_size l k known
  have ho7 := rowV_one l k known
  have HG : Hid (∀ d : Nat, d < 1024 → (rowV l k known).toList[d]? = some (.int .i64 (valAt l k known d))) := Lib.hid fun d hd => rowV_list l k known hd
  obtain ⟨A, hA⟩ : ∃ A, rowV l k known = A := ⟨_, rfl⟩
  rw [hA] at HC hl7 hs7 ho7 HG
  clear hA
  go_enter Try.func21, Try.ntmps21
  go_wp2_with (go_at_call 39; refine HC.out.mono ?_; rintro e w1 ⟨rfl, hB1⟩; have hst := store_row w1 A.toList hl7 ho7)
  all_goals (
    have hr0 := range_row w1 A.toList hl7
    have hBS : Below w.heap.size w ((w1.alloc (.cells Try.zeroCells70 70)).setCells w1.heap.size 0 A.toList) := below_setCells (by have := (hal.on hB1).size; omega) _ _ _ ((hal.on hB1).alloc (hal.on hB1).size _)
    have hsS : ((w1.alloc (.cells Try.zeroCells70 70)).setCells w1.heap.size 0 A.toList).heap.size = w1.heap.size + 1 := by rw [size_setCells]; simp
    obtain ⟨wS, hwS⟩ : ∃ wS, (w1.alloc (.cells Try.zeroCells70 70)).setCells w1.heap.size 0 A.toList = wS := ⟨_, rfl⟩
    have hB1w := (hal.on hB1).size
    obtain ⟨B, hBB⟩ : ∃ B, w1.heap.size = B := ⟨_, rfl⟩
    rw [hwS] at hr0 hBS hsS ⊢
    rw [hBB] at hr0 hsS hB1w ⊢
    clear hst hwS hBB hB1 HC g0 g1 g2 hal
    go_loopw [10, 12] (fun v i wr => ∃ (d : Nat), i = .int .i64 d ∧ Hid (d = f0 ∨ (d ≤ 1024 ∧ (d : Int) ≤ to)) ∧ Hid (from' ≤ d) ∧ OwnSL encP 2 wr (B + 1) 60 v (ptsTo l k from' known d) ∧ Below w.heap.size w wr ∧ wr.rangeAt B 0 A.toList ∧ B < wr.heap.size) (fun _ i _ => 1024 - (intOf i).toNat)
    case atStart => exact ⟨f0, congrArg (Value.int .i64) (by omega), Lib.hid (.inl rfl), Lib.hid (by have := HM0.out; omega), by rw [← HM0.out, ptsTo_start]; exact OwnSL.nil _ _ _ _ _, hBS, hr0, by omega⟩
    case round =>
      clear hmax hr0 hBS hsS
      obtain ⟨d, rfl, HD, HF, hO, hB, hrg, hBl⟩ := hrel
      by_cases hlt : (d : Int) < t0
      · have HS := Lib.hid (ptsTo_succ l k from' known d HF.out)
        have HLT := Lib.hid hlt
        have hd2 : (d : Int) < to := by have := HMI.out; omega
        have hd3 : (d : Int) < 1024 := by have := HMI.out; omega
        have hd0 : (0 : Int) ≤ (d : Int) := by omega
        have hd1 : d < 1024 := by omega
        have HLE := ptsTo_len l k from' known d
        have hcell : wr.cell? ⟨B, d, none⟩ = some (.int .i64 (valAt l k known d)) := by have := hrg d _ (HG.out d hd1); rwa [Nat.zero_add] at this
        have HAT := Lib.hid (valAt_at l k known d)
        obtain ⟨v0, hv0⟩ : ∃ v, valAt l k known d = v := ⟨_, rfl⟩
        rw [hv0] at hcell HAT
        obtain ⟨L, hL⟩ : ∃ L, ptsTo l k from' known d = L := ⟨_, rfl⟩
        rw [hL] at hO HLE
        have HL := Lib.hid hL
        have hsz := hB.size
        have hlw := hO.lt
        clear hL hv0 hlt
        by_cases hv : 0 ≤ v0
        · have HV := Lib.hid hv
          have hO' := hO
          unfold OwnSL at hO'
          go_wp2_with (at_builtin; refine wpList_append_own2 _ rfl _ _ 41 rfl (B + 1) 60 i2 _ 2 16 Try.underlying41 hi2 hz20 hz21 hz22 rfl (by decide) _ _ _ (hO'.alloc _) rfl ⟨_, 0, none⟩ 1 1 (encP ((d : Int), v0)) rfl rfl (new2 _ _ _) (encP_one _) (by unfold maxLen; omega) (by omega) (by simp; omega) ?_; intro v' w4 hown' hgrow hfr)
          all_goals (
            go_roundw
            case rel =>
              refine ⟨d + 1, by go_num, Lib.hid (.inr (by have := HLT.out; have := HMI.out; omega)), Lib.hid (by have := HF.out; omega), ?_, (hB.alloc (by omega) _).grown hgrow (by simp; omega) (fun q e => by have := (hlw q e).1; omega), rangeAt_grown (rangeAt_below hrg ((Below.refl _ _).alloc (Nat.le_refl _) _) hBl) hgrow (by simp; omega) (fun e => by have := (hlw _ e).1; omega), by have := hgrow.size; simp at this; omega⟩
              rw [HS.out, HAT.out, if_pos HV.out, HL.out]
              exact OwnSL.snoc hown'
            case measure => simp [intOf]; omega)
        · have HV := Lib.hid hv
          go_wp2_with fail
          all_goals (
            go_roundw
            case rel =>
              refine ⟨d + 1, by go_num, Lib.hid (.inr (by have := HLT.out; have := HMI.out; omega)), Lib.hid (by have := HF.out; omega), ?_, hB, hrg, hBl⟩
              rw [HS.out, HAT.out, if_neg (by have := HV.out; omega), HL.out]
              simpa using hO
            case measure => simp [intOf]; omega)
      · have HE := Lib.hid (ptsTo_end l k from' to known d (by rw [HM0.out]; exact HD.out) (by rw [HMI.out]; exact hlt))
        go_wp2_with fail
        all_goals first | (exfalso; omega) | (go_ret; exact ⟨_, rfl, by rw [← HE.out]; exact hO.mono (by omega), hB⟩))
end Go.Proofs.Ytfhekhjojdhmhaa
