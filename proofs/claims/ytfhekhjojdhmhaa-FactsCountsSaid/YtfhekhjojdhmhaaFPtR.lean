/- Contract of ref.Points. -/
import Derived.Test.YtfhekhjojdhmhaaFAtR
import Derived.Test.YtfhekhjojdhmhaaFPt
import Derived.WalkKit
import Derived.WalkSpells
import Derived.WalkLawsBesides
import Derived.Deep.LoopGhost
import Derived.Deep.QuietTactic
import Derived.BigQuiet
import Derived.StillTailTactics
import Derived.Lib.Hide
import Derived.Outline
import Derived.Lib.QuietBelow
namespace Go.Proofs.Ytfhekhjojdhmhaa
open Go.RowKit

theorem info_point : (Try.prog.info? 60).map (fun i => (i.zero, i.size, i.bytes)) = some (some (.agg #[.int .i64 0, .int .i64 0]), 2, 16) := by kernel_rfl
/-- The points of the days below d. -/
def ptsTo (l : List Fact) (k : Key) (from' known : Int) (d : Nat) : List (Int × Int) := (((List.range d).map Int.ofNat).filter fun d => decide (from' ≤ d)).filterMap fun d => (atF l k d known).map fun v => (d, v)
theorem ptsTo_succ (l : List Fact) (k : Key) (from' known : Int) (d : Nat) (h : from' ≤ d) : ptsTo l k from' known (d + 1) = ptsTo l k from' known d ++ ((atF l k d known).map fun v => ((d : Int), v)).toList := by
  unfold ptsTo
  rw [List.range_succ, List.map_append, List.filter_append, List.filterMap_append]
  congr 1
  simp [h, List.filterMap_cons]
  cases atF l k d known <;> rfl
theorem ptsTo_start (l : List Fact) (k : Key) (from' known : Int) : ptsTo l k from' known (max 0 from').toNat = [] := by
  unfold ptsTo
  rw [List.filter_eq_nil_iff.2]
  · rfl
  · intro x hx
    rw [List.mem_map] at hx
    obtain ⟨y, hy, rfl⟩ := hx
    rw [List.mem_range] at hy
    simp only [Int.ofNat_eq_natCast, decide_eq_true_eq]; omega
theorem ptsTo_end (l : List Fact) (k : Key) (from' to known : Int) (d : Nat) (h1 : d = (max 0 from').toNat ∨ (d ≤ 1024 ∧ (d : Int) ≤ to)) (h2 : ¬ (d : Int) < min to 1024) : ptsTo l k from' known d = pointsL l k from' to known := by
  unfold ptsTo pointsL daysL
  refine congrArg (fun L => List.filterMap (fun d => (atF l k d known).map fun v => (d, v)) L) ?_
  by_cases hd : d ≤ 1024
  · have e : List.range 1024 = List.range d ++ (List.range (1024 - d)).map (d + ·) := by rw [← List.range_add]; congr 1; omega
    rw [e, List.map_append, List.filter_append]
    have e2 : (((List.range (1024 - d)).map (d + ·)).map Int.ofNat).filter (fun x => decide (from' ≤ x ∧ x < to)) = [] := by
      rw [List.filter_eq_nil_iff]
      intro x hx
      rw [List.mem_map] at hx
      obtain ⟨y, hy, rfl⟩ := hx
      rw [List.mem_map] at hy
      obtain ⟨z, hz, rfl⟩ := hy
      rw [List.mem_range] at hz
      simp only [Int.ofNat_eq_natCast, decide_eq_true_eq]; omega
    rw [e2, List.append_nil]
    apply List.filter_congr
    intro x hx
    rw [List.mem_map] at hx
    obtain ⟨y, hy, rfl⟩ := hx
    rw [List.mem_range] at hy
    rw [decide_eq_decide]
    simp only [Int.ofNat_eq_natCast]; omega
  · have z1 : ((List.range d).map Int.ofNat).filter (fun x => decide (from' ≤ x)) = [] := by
      rw [List.filter_eq_nil_iff]
      intro x hx
      rw [List.mem_map] at hx
      obtain ⟨y, hy, rfl⟩ := hx
      rw [List.mem_range] at hy
      simp only [Int.ofNat_eq_natCast, decide_eq_true_eq]; omega
    have z2 : ((List.range 1024).map Int.ofNat).filter (fun x => decide (from' ≤ x ∧ x < to)) = [] := by
      rw [List.filter_eq_nil_iff]
      intro x hx
      rw [List.mem_map] at hx
      obtain ⟨y, hy, rfl⟩ := hx
      rw [List.mem_range] at hy
      simp only [Int.ofNat_eq_natCast, decide_eq_true_eq]; omega
    rw [z1, z2]
theorem ptsTo_len (l : List Fact) (k : Key) (from' known : Int) (d : Nat) : (ptsTo l k from' known d).length ≤ d := by
  unfold ptsTo
  refine Nat.le_trans (List.length_filterMap_le _ _) (Nat.le_trans (List.length_filter_le _ _) ?_)
  simp
theorem info2 : ∃ i, Try.prog.info? 60 = some i ∧ i.zero = some (.agg #[.int .i64 0, .int .i64 0]) ∧ i.size = 2 ∧ i.bytes = 16 := by
  obtain ⟨i, h1, h2, h3, h4⟩ := info_parts info_point
  exact ⟨i, h1, h2, h3, h4⟩
theorem new2 (w : World) (p : Int × Int) (t : TypeId) : ∀ j u, (encP p)[j]? = some u → (w.alloc (.cells #[.int .i64 p.1, .int .i64 p.2] t)).cell? (Addr.add ⟨w.heap.size, 0, none⟩ j) = some u := by
  intro j u hj
  have h := (Box.new w #[.int .i64 p.1, .int .i64 p.2] t).cell (0 + j)
  rw [show (Addr.add ⟨w.heap.size, 0, none⟩ j) = ⟨w.heap.size, 0 + j, none⟩ by (simp [Addr.add]; try omega), h, Nat.zero_add]
  rw [← hj]; simp [encP]
theorem encP_one (p : Int × Int) : ∀ u ∈ encP p, u.oneCell' = true := by intro u hu; simp [encP] at hu; rcases hu with rfl | rfl <;> rfl
theorem K3.grown {w w' : World} {b : Nat} {k : Key} {row : Option Nat} (h : K3 w b k) (hg : w.grownBy w' row) (hne : row ≠ some b) : K3 w' b k := by
  obtain ⟨h0, h1, h2⟩ := h
  have l := World.block_lt_of_cell? w _ h0
  have c : ∀ i, w'.cell? ⟨b, i, none⟩ = w.cell? ⟨b, i, none⟩ := fun i => World.cell?_of_block (w := w) (hg.block b l (Ne.symm hne))
  exact ⟨(c _).trans h0, (c _).trans h1, (c _).trans h2⟩
theorem K3.lt {w : World} {b : Nat} {k : Key} (h : K3 w b k) : b < w.heap.size := World.block_lt_of_cell? w _ h.1

set_option maxRecDepth 20000 in
set_option maxHeartbeats 4000000 in
theorem rpoints_any (a0 : Option Addr) (n0 c0 : Nat) (l : List Fact) (k : Key) (from' to known : Int) (w : World) (h0 : SL encF 8 w a0 n0 c0 l) :
    Calls Try.prog 22 #[.slice a0 n0 c0, keyV k, .int .i64 from', .int .i64 to, .int .i64 known] w (RetSL encP 2 w 60 (pointsL l k from' to known)) := by
  have hal : Below w.heap.size w ((w.alloc (.cells #[.int .i64 k.kd, .int .i64 k.sb, .int .i64 k.ob] 24)).alloc (.cells #[] 60)) := ((Below.refl _ _).alloc (Nat.le_refl _) _).alloc (by simp) _
  have hK0 : K3 ((w.alloc (.cells #[.int .i64 k.kd, .int .i64 k.sb, .int .i64 k.ob] 24)).alloc (.cells #[] 60)) w.heap.size k := Box3 ((Box.new _ _ _).alloc _)
  have hO0 : OwnSL encP 2 ((w.alloc (.cells #[.int .i64 k.kd, .int .i64 k.sb, .int .i64 k.ob] 24)).alloc (.cells #[] 60)) (w.heap.size + 1) 60 (.slice (some ⟨w.heap.size + 1, 0, none⟩) 0 0) [] := by
    have := OwnSL.made0 encP 2 (w.alloc (.cells #[.int .i64 k.kd, .int .i64 k.sb, .int .i64 k.ob] 24)) 60 (w.heap.size + 1) (by simp)
    simpa only [World.size_alloc] using this
  obtain ⟨i2, hi2, hz20, hz21, hz22⟩ := info2
  obtain ⟨f0, hmax⟩ : ∃ f0 : Nat, max (0 : Int) from' = f0 := ⟨(max 0 from').toNat, by omega⟩
  have HM0 : Hid ((max (0 : Int) from').toNat = f0) := Lib.hid (by omega)
  obtain ⟨t0, hmin⟩ : ∃ t0 : Int, min to 1024 = t0 := ⟨_, rfl⟩
  have HMI : Hid (min to 1024 = t0) := Lib.hid hmin
  go_enter Try.func22, Try.ntmps22
  go_wp2_with fail
  all_goals (
    go_loopw [11, 12] (fun v i wr => ∃ (d : Nat), i = .int .i64 d ∧ Hid (d = f0 ∨ (d ≤ 1024 ∧ (d : Int) ≤ to)) ∧ Hid (from' ≤ d) ∧ OwnSL encP 2 wr (w.heap.size + 1) 60 v (ptsTo l k from' known d) ∧ Below w.heap.size w wr ∧ K3 wr w.heap.size k) (fun _ i _ => 1024 - (intOf i).toNat)
    case atStart => exact ⟨f0, congrArg (Value.int .i64) (by omega), Lib.hid (.inl rfl), Lib.hid (by have := HM0.out; omega), by rw [← HM0.out, ptsTo_start]; exact hO0, hal, hK0⟩
    case round =>
      clear hal hK0 hO0 hmax
      obtain ⟨d, rfl, HD, HF, hO, hB, hK3⟩ := hrel
      by_cases hlt : (d : Int) < t0
      · have HS := Lib.hid (ptsTo_succ l k from' known d HF.out)
        have HLT := Lib.hid hlt
        have hd2 : (d : Int) < to := by have := HMI.out; omega
        have hd3 : (d : Int) < 1024 := by have := HMI.out; omega
        have hd1 : d < 1024 := by have := HMI.out; omega
        have HLE := ptsTo_len l k from' known d
        have hkl := hK3.lt
        obtain ⟨g0, g1, g2⟩ := hK3
        have hK3 : K3 wr w.heap.size k := ⟨g0, g1, g2⟩
        have HC := Lib.hid (rat_any a0 n0 c0 l k d known wr (h0.below hB))
        obtain ⟨L, hL⟩ : ∃ L, ptsTo l k from' known d = L := ⟨_, rfl⟩
        rw [hL] at hO HLE
        have HL := Lib.hid hL
        clear hL
        cases hat : atF l k d known with
        | none =>
          have HAT := Lib.hid hat
          have hok : atOk l k d known = false := by unfold atOk; rw [hat]; rfl
          rw [hok] at HC
          clear hat hok
          go_wp2_with (go_at_call 19; refine HC.out.mono ?_; rintro e w' ⟨rfl, hb⟩)
          go_roundw
          case rel => exact ⟨d + 1, by go_num, Lib.hid (.inr (by have := HLT.out; have := HMI.out; omega)), Lib.hid (by have := HF.out; omega), by rw [HS.out, HAT.out, HL.out]; simpa using hO.below hb, hB.on hb, hK3.below hb⟩
          case measure => simp [intOf]; omega
        | some v =>
          have HAT := Lib.hid hat
          have hok : atOk l k d known = true := by unfold atOk; rw [hat]; rfl
          have hv : atV l k d known = v := by unfold atV; rw [hat]; rfl
          rw [hok, hv] at HC
          clear hat hok hv
          go_wp2_with (first | (go_at_call 19; refine HC.out.mono ?_; rintro e w' ⟨rfl, hb⟩; have hO' := hO.below hb; unfold OwnSL at hO') | (at_builtin; refine wpList_append_own2 _ rfl _ _ 41 rfl (w.heap.size + 1) 60 i2 _ 2 16 Try.underlying41 hi2 hz20 hz21 hz22 rfl (by decide) _ _ _ (hO'.alloc _) rfl ⟨_, 0, none⟩ 1 1 (encP ((d : Int), v)) rfl rfl (new2 _ _ _) (encP_one _) (by unfold maxLen; omega) (by omega) (by have := hb.size; simp; omega) ?_; intro v' w1 hown' hgrow hfr))
          have hBw : Below w.heap.size w w' := hB.on hb
          have hlw := (show OwnSL encP 2 w' (w.heap.size + 1) _ _ _ from hO').lt
          have hsb := hb.size
          go_roundw
          case rel =>
            refine ⟨d + 1, by go_num, Lib.hid (.inr (by have := HLT.out; have := HMI.out; omega)), Lib.hid (by have := HF.out; omega), ?_, ((hBw.alloc (by omega) _).grown hgrow (by simp; omega) (fun q e => by have := (hlw q e).1; omega)), ((hK3.below hb).below ((Below.refl _ _).alloc (Nat.le_refl _) _)).grown hgrow (fun e => by have := (hlw _ e).1; omega)⟩
            rw [HS.out, HAT.out, HL.out]
            exact OwnSL.snoc hown'
          case measure => simp [intOf]; omega
      · have HE := Lib.hid (ptsTo_end l k from' to known d (by rw [HM0.out]; exact HD.out) (by rw [HMI.out]; exact hlt))
        go_wp2_with fail
        all_goals first | (exfalso; omega) | (go_ret; exact ⟨_, rfl, by rw [← HE.out]; exact hO.mono (by omega), hB⟩))
end Go.Proofs.Ytfhekhjojdhmhaa
