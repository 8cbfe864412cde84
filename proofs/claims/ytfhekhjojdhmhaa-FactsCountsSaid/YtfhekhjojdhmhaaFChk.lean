/- Contracts of facts.Check and of ref.Check. -/
import Derived.Test.YtfhekhjojdhmhaaFIdx
import Derived.Deep.RegionHeld3
import Derived.WalkKit
import Derived.WalkSpells
import Derived.WalkLawsBesides
import Derived.Deep.LoopGhost
import Derived.Deep.QuietTactic
import Derived.BigQuiet
import Derived.StillTailTactics
import Derived.Lib.Hide
import Derived.Outline
import Derived.Lib.QuietBelow
namespace Go.Proofs.Ytfhekhjojdhmhaa
open Go.RowKit

theorem ordB_iff : ∀ (l : List Fact), ordB l = true ↔ ∀ (i : Nat) (a b : Fact), l[i]? = some a → l[i + 1]? = some b → befB a b = true
  | [] => by simp [ordB]
  | [x] => by simp [ordB]
  | x :: y :: l => by
    rw [ordB, Bool.and_eq_true, ordB_iff (y :: l)]
    constructor
    · rintro ⟨h1, h2⟩ i a b ha hb
      cases i with
      | zero => simp at ha hb; subst ha; subst hb; exact h1
      | succ i => exact h2 i a b (by simpa using ha) (by simpa using hb)
    · intro h
      exact ⟨h 0 x y rfl rfl, fun i a b ha hb => h (i + 1) a b (by simpa using ha) (by simpa using hb)⟩
def ordUpto (l : List Fact) (k : Nat) : Prop := ∀ (i : Nat) (a b : Fact), i < k → l[i]? = some a → l[i + 1]? = some b → befB a b = true
theorem ord_step {l : List Fact} {k : Nat} {x y : Fact} (h : ordUpto l k) (hx : l[k]? = some x) (hy : l[k + 1]? = some y) (hb : befB x y = true) : ordUpto l (k + 1) := by
  intro i a b hi ha hb'
  by_cases hik : i = k
  · subst hik
    rw [hx] at ha; rw [hy] at hb'
    injection ha with ha; injection hb' with hb'
    subst ha; subst hb'; exact hb
  · exact h i a b (by omega) ha hb'
theorem ord_end {l : List Fact} {k : Nat} (h : ordUpto l k) (hk : l.length ≤ k + 1) : ordB l = true :=
  (ordB_iff l).2 fun i a b ha hb => h i a b (by have := (List.getElem?_eq_some_iff.1 hb).1; omega) ha hb
theorem ord_bad {l : List Fact} {k : Nat} {x y : Fact} (hx : l[k]? = some x) (hy : l[k + 1]? = some y) (hb : befB x y = false) : ordB l = false := by
  cases h : ordB l
  · rfl
  · rw [(ordB_iff l).1 h k x y hx hy] at hb; cases hb

theorem checkF_40 {l : List Fact} (h : l.all validB = false) : checkF l = 40 := by unfold checkF; rw [if_neg (by simp [h])]
theorem checkF_41 {l : List Fact} (h : l.all validB = true) (h2 : ordB l = false) : checkF l = 41 := by unfold checkF; rw [if_pos h, if_neg (by simp [h2])]
theorem checkF_0 {l : List Fact} (h : l.all validB = true) (h2 : ordB l = true) : checkF l = 0 := by unfold checkF; rw [if_pos h, if_pos h2]

/-- The cells of one fact. -/
def At8 (w : World) (b o : Nat) (f : Fact) : Prop := (w.cell? ⟨b, o, none⟩ = some (.int .i64 f.kd) ∧ w.cell? ⟨b, o + 1, none⟩ = some (.int .i64 f.sb) ∧ w.cell? ⟨b, o + 2, none⟩ = some (.int .i64 f.ob) ∧ w.cell? ⟨b, o + 3, none⟩ = some (.int .i64 f.val) ∧ w.cell? ⟨b, o + 4, none⟩ = some (.int .i64 f.vf) ∧ w.cell? ⟨b, o + 5, none⟩ = some (.int .i64 f.vt) ∧ w.cell? ⟨b, o + 6, none⟩ = some (.int .i64 f.kn) ∧ w.cell? ⟨b, o + 7, none⟩ = some (.int .i64 f.no))
theorem At8.below {w w' : World} {b o : Nat} {f : Fact} (h : At8 w b o f) (hb : Below w.heap.size w w') : At8 w' b o f := by
  obtain ⟨h0, h1, h2, h3, h4, h5, h6, h7⟩ := h
  have l := World.block_lt_of_cell? w _ h0
  exact ⟨(hb.cell (p := ⟨b, o, none⟩) l).trans h0, (hb.cell (p := ⟨b, o + 1, none⟩) l).trans h1, (hb.cell (p := ⟨b, o + 2, none⟩) l).trans h2, (hb.cell (p := ⟨b, o + 3, none⟩) l).trans h3, (hb.cell (p := ⟨b, o + 4, none⟩) l).trans h4, (hb.cell (p := ⟨b, o + 5, none⟩) l).trans h5, (hb.cell (p := ⟨b, o + 6, none⟩) l).trans h6, (hb.cell (p := ⟨b, o + 7, none⟩) l).trans h7⟩
theorem keep2F {w0 w w' : World} {b1 o1 b2 o2 : Nat} {f g : Fact} (h : At8 w b1 o1 f ∧ At8 w b2 o2 g ∧ Below w0.heap.size w0 w) (hb : Below w.heap.size w w') : At8 w' b1 o1 f ∧ At8 w' b2 o2 g ∧ Below w0.heap.size w0 w' :=
  ⟨h.1.below hb, h.2.1.below hb, h.2.2.on hb⟩
set_option maxRecDepth 10000 in
set_option maxHeartbeats 2000000 in
theorem check_any (a0 : Option Addr) (n0 c0 : Nat) (l : List Fact) (w : World) (h0 : SL encF 8 w a0 n0 c0 l) :
    Calls Try.prog 15 #[.slice a0 n0 c0] w fun e w' => RetB w (.int .i64 (checkF l)) e w' := by
  have hm0 := h0.mx
  have hc0 := h0.cap
  have hl0 := Lib.hid h0.len
  unfold maxLen at hm0
  have HC := containsF_any 37 #[] a0 n0 c0 l (fun f => !validB f) w (enters_of Try.func37 (by kernel_rfl) rfl) h0 (fun x W _ => notfit_any x W)
  have hall : (l.any fun f => !validB f) = !(l.all validB) := by rw [List.not_all_eq_any_not]
  rw [hall] at HC
  clear hall
  cases hv : l.all validB
  · rw [hv] at HC
    have HC := Lib.hid HC
    have HV := Lib.hid hv
    clear hv
    go_enter Try.func15, Try.ntmps15
    go_wp2_with (go_at_call 36; refine HC.out.mono ?_; rintro e w' ⟨rfl, hB⟩)
    go_ret
    exact ⟨ret_int (checkF_40 HV.out).symm, hB⟩
  · rw [hv] at HC
    have HC := Lib.hid HC
    have HV := Lib.hid hv
    clear hv
    by_cases hn : n0 = 0
    · subst hn
      have HL : ordB l = true := by rw [List.eq_nil_of_length_eq_zero hl0.out]; rfl
      have HL := Lib.hid HL
      go_enter Try.func15, Try.ntmps15
      go_wp2_with (go_at_call 36; refine HC.out.mono ?_; rintro e w' ⟨rfl, hB⟩)
      go_loopw [3, 12] (fun _ i wr => i = .int .i64 0 ∧ Below w.heap.size w wr) (fun _ _ _ => 0)
      case atStart => exact ⟨rfl, hB⟩
      case round =>
        obtain ⟨rfl, hB⟩ := hrel
        go_wp2_with fail
        go_ret
        exact ⟨ret_int (checkF_0 HV.out HL.out).symm, hB⟩
    · obtain ⟨b0, o0, rfl, hb0⟩ := h0.at' (by omega)
      have hmin : min (1 : Int) n0 = 1 := by omega
      go_enter Try.func15, Try.ntmps15
      go_wp2_with (go_at_call 36; refine HC.out.mono ?_; rintro e w' ⟨rfl, hB⟩)
      all_goals (
        clear hmin
        go_loopw [3, 12] (fun _ i wr => ∃ k : Nat, k ≤ n0 - 1 ∧ i = .int .i64 k ∧ Hid (ordUpto l k) ∧ Below w.heap.size w wr) (fun _ i _ => n0 - (intOf i).toNat)
        case atStart => exact ⟨0, by omega, rfl, Lib.hid (by intro i a b hi; omega), hB⟩
        case round =>
          obtain ⟨k, hk, rfl, HM, hB2⟩ := hrel
          by_cases hlt : k < n0 - 1
          · obtain ⟨x, hx⟩ := h0.get (i := k) (by omega)
            obtain ⟨y, hy⟩ := h0.get (i := k + 1) (by omega)
            have hA1 := (h0.below hB2).fact hx
            have hA2 := (h0.below hB2).fact hy
            have HX := Lib.hid hx
            have HY := Lib.hid hy
            have t1 : (0 : Int) ≤ (k : Int) := by omega
            have t2 : (k : Int) < (n0 : Int) := by omega
            have t3 : (k : Int) + 1 < (n0 : Int) := by omega
            have t4 : (k : Int) < ((n0 - 1 : Nat) : Int) := by omega
            have hw1 : IntKind.i64.wrap ((k : Int) + 1) = (k : Int) + 1 := by rw [IntKind.wrap_i64]; omega
            have t5 : (0 : Int) ≤ (k : Int) + 1 := by omega
            have t6 : ((k : Int) + 1).toNat = k + 1 := by omega
            clear hx hy hB
            go_wp2_with fail
            go_region_held3 (fun w' => (w'.cell? ⟨b0, o0 + k * 8, none⟩ = some (.int .i64 x.kd) ∧ w'.cell? ⟨b0, o0 + k * 8 + 1, none⟩ = some (.int .i64 x.sb) ∧ w'.cell? ⟨b0, o0 + k * 8 + 2, none⟩ = some (.int .i64 x.ob) ∧ w'.cell? ⟨b0, o0 + k * 8 + 3, none⟩ = some (.int .i64 x.val) ∧ w'.cell? ⟨b0, o0 + k * 8 + 4, none⟩ = some (.int .i64 x.vf) ∧ w'.cell? ⟨b0, o0 + k * 8 + 5, none⟩ = some (.int .i64 x.vt) ∧ w'.cell? ⟨b0, o0 + k * 8 + 6, none⟩ = some (.int .i64 x.kn) ∧ w'.cell? ⟨b0, o0 + k * 8 + 7, none⟩ = some (.int .i64 x.no)) ∧ (w'.cell? ⟨b0, o0 + (k + 1) * 8, none⟩ = some (.int .i64 y.kd) ∧ w'.cell? ⟨b0, o0 + (k + 1) * 8 + 1, none⟩ = some (.int .i64 y.sb) ∧ w'.cell? ⟨b0, o0 + (k + 1) * 8 + 2, none⟩ = some (.int .i64 y.ob) ∧ w'.cell? ⟨b0, o0 + (k + 1) * 8 + 3, none⟩ = some (.int .i64 y.val) ∧ w'.cell? ⟨b0, o0 + (k + 1) * 8 + 4, none⟩ = some (.int .i64 y.vf) ∧ w'.cell? ⟨b0, o0 + (k + 1) * 8 + 5, none⟩ = some (.int .i64 y.vt) ∧ w'.cell? ⟨b0, o0 + (k + 1) * 8 + 6, none⟩ = some (.int .i64 y.kn) ∧ w'.cell? ⟨b0, o0 + (k + 1) * 8 + 7, none⟩ = some (.int .i64 y.no)) ∧ Below wr.heap.size wr w')
              (first | exact ⟨hA1, hA2, (Below.refl _ _).drew⟩ | exact keep2F (by assumption) (by assumption))
              (first | (go_at_call 33; refine (compare_any _ _ _).mono ?_; rintro e w' ⟨rfl, hb⟩))
            have hBr : Below w.heap.size w w' := hB2.on ((Below.refl _ _).drew.on hb)
            clear hb
            cases hbf : befB x y
            · have t7 : 0 ≤ cmpF x y := by have := cmpF_geq x y; rw [hbf] at this; simpa using this
              have HBF := Lib.hid hbf
              clear hbf
              go_wp2_with fail
              all_goals first | (exfalso; omega) | (go_ret; exact ⟨ret_int (checkF_41 HV.out (ord_bad HX.out HY.out HBF.out)).symm, hBr⟩)
            · have t7 : ¬ 0 ≤ cmpF x y := by have := cmpF_geq x y; rw [hbf] at this; simpa using this
              have HBF := Lib.hid hbf
              clear hbf
              go_wp2_with fail
              all_goals first | (exfalso; omega) | (
                go_roundw
                case rel => exact ⟨k + 1, by omega, by go_num, Lib.hid (ord_step HM.out HX.out HY.out HBF.out), hBr⟩
                case measure => simp [intOf]; omega)
          · obtain rfl : k = n0 - 1 := by omega
            go_wp2_with fail
            go_ret
            exact ⟨ret_int (checkF_0 HV.out (ord_end HM.out (by rw [hl0.out]; omega))).symm, hB2⟩)

theorem all_false {l : List Fact} {x : Fact} {k : Nat} (h : l[k]? = some x) (hv : validB x = false) : l.all validB = false := by
  rw [List.all_eq_false]; exact ⟨x, List.mem_of_getElem? h, by simp [hv]⟩
theorem all_true {l : List Fact} {n : Nat} (hl : l.length ≤ n) (h : noneUpto l (fun f => !validB f) n) : l.all validB = true := by
  rw [List.all_eq_true]; intro x hx
  have := h x (by rw [List.take_of_length_le hl]; exact hx)
  simpa using this
def ordFrom (l : List Fact) (k : Nat) : Prop := ordUpto l (k - 1)

set_option maxRecDepth 10000 in
set_option maxHeartbeats 2000000 in
theorem rcheck_any (a0 : Option Addr) (n0 c0 : Nat) (l : List Fact) (w : World) (h0 : SL encF 8 w a0 n0 c0 l) :
    Calls Try.prog 16 #[.slice a0 n0 c0] w fun e w' => RetB w (.int .i64 (checkF l)) e w' := by
  have hm0 := h0.mx
  have hc0 := h0.cap
  have hl0 := Lib.hid h0.len
  unfold maxLen at hm0
  go_enter Try.func16, Try.ntmps16
  go_wp2_with fail
  go_loopw [3] (fun i wr => ∃ k : Nat, k ≤ n0 ∧ i = .int .i64 k ∧ Hid (noneUpto l (fun f => !validB f) k) ∧ Below w.heap.size w wr) (fun i _ => n0 - (intOf i).toNat)
  case atStart => exact ⟨0, by omega, rfl, Lib.hid (by intro x hx; simp at hx), Below.refl _ _⟩
  case round =>
    obtain ⟨k, hk, rfl, HM, hB⟩ := hrel
    by_cases hlt : k < n0
    · obtain ⟨b0, o0, rfl, hb0⟩ := h0.at' (by omega)
      obtain ⟨x, hx⟩ := h0.get hlt
      obtain ⟨e0, e1, e2, e3, e4, e5, e6, e7⟩ := (h0.below hB).fact hx
      have HX := Lib.hid hx
      clear hx
      have HC := valid_any x wr
      cases hd : validB x
      · have HD := Lib.hid hd
        rw [hd] at HC
        have HC := Lib.hid HC
        clear hd
        go_wp2_with (go_at_call 35; refine HC.out.mono ?_; rintro e w' ⟨rfl, hB2⟩)
        go_ret
        exact ⟨ret_int (checkF_40 (all_false HX.out HD.out)).symm, hB.on hB2⟩
      · have HD := Lib.hid hd
        rw [hd] at HC
        have HC := Lib.hid HC
        clear hd
        go_wp2_with (go_at_call 35; refine HC.out.mono ?_; rintro e w' ⟨rfl, hB2⟩)
        go_roundw
        case rel => exact ⟨k + 1, by omega, by go_num, Lib.hid (none_step HX.out HM.out (by simp [HD.out])), hB.on hB2⟩
        case measure => simp [intOf]; omega
    · obtain rfl : n0 = k := by omega
      have HV := Lib.hid (all_true (l := l) (by rw [hl0.out]; omega) HM.out)
      clear hk hlt HM
      go_wp2_with fail
      go_loopw [4] (fun i wr => ∃ k : Nat, 1 ≤ k ∧ (k ≤ n0 ∨ k = 1) ∧ i = .int .i64 k ∧ Hid (ordFrom l k) ∧ Below w.heap.size w wr) (fun i _ => n0 - (intOf i).toNat)
      case atStart => exact ⟨1, by omega, by omega, rfl, Lib.hid (by intro i a b hi; omega), hB⟩
      case round =>
        clear hB
        obtain ⟨k, hk1, hk, rfl, HM, hB⟩ := hrel
        by_cases hlt : k < n0
        · obtain ⟨b0, o0, rfl, hb0⟩ := h0.at' (by omega)
          obtain ⟨x, hx⟩ := h0.get (i := k - 1) (by omega)
          obtain ⟨y, hy⟩ := h0.get (i := k) (by omega)
          have hA1 := (h0.below hB).fact hx
          have hA2 := (h0.below hB).fact hy
          have HX := Lib.hid hx
          have HY := Lib.hid (show l[k - 1 + 1]? = some y by rw [show k - 1 + 1 = k by omega]; exact hy)
          have t1 : (0 : Int) ≤ (k : Int) := by omega
          have t2 : (k : Int) < (n0 : Int) := by omega
          have hw1 : IntKind.i64.wrap ((k : Int) - 1) = (k : Int) - 1 := by rw [IntKind.wrap_i64]; omega
          have t5 : (0 : Int) ≤ (k : Int) - 1 := by omega
          have t6 : (k : Int) - 1 < n0 := by omega
          have t7 : ((k : Int) - 1).toNat = k - 1 := by omega
          have t8 : (1 : Int) ≤ (k : Int) := by omega
          have t9 : (k : Int) ≤ (n0 : Int) := by omega
          have HC := before_any x y
          have HC := Lib.hid HC
          clear hx hy
          go_wp2_with fail
          go_region_held3 (fun w' => (w'.cell? ⟨b0, o0 + (k - 1) * 8, none⟩ = some (.int .i64 x.kd) ∧ w'.cell? ⟨b0, o0 + (k - 1) * 8 + 1, none⟩ = some (.int .i64 x.sb) ∧ w'.cell? ⟨b0, o0 + (k - 1) * 8 + 2, none⟩ = some (.int .i64 x.ob) ∧ w'.cell? ⟨b0, o0 + (k - 1) * 8 + 3, none⟩ = some (.int .i64 x.val) ∧ w'.cell? ⟨b0, o0 + (k - 1) * 8 + 4, none⟩ = some (.int .i64 x.vf) ∧ w'.cell? ⟨b0, o0 + (k - 1) * 8 + 5, none⟩ = some (.int .i64 x.vt) ∧ w'.cell? ⟨b0, o0 + (k - 1) * 8 + 6, none⟩ = some (.int .i64 x.kn) ∧ w'.cell? ⟨b0, o0 + (k - 1) * 8 + 7, none⟩ = some (.int .i64 x.no)) ∧ (w'.cell? ⟨b0, o0 + k * 8, none⟩ = some (.int .i64 y.kd) ∧ w'.cell? ⟨b0, o0 + k * 8 + 1, none⟩ = some (.int .i64 y.sb) ∧ w'.cell? ⟨b0, o0 + k * 8 + 2, none⟩ = some (.int .i64 y.ob) ∧ w'.cell? ⟨b0, o0 + k * 8 + 3, none⟩ = some (.int .i64 y.val) ∧ w'.cell? ⟨b0, o0 + k * 8 + 4, none⟩ = some (.int .i64 y.vf) ∧ w'.cell? ⟨b0, o0 + k * 8 + 5, none⟩ = some (.int .i64 y.vt) ∧ w'.cell? ⟨b0, o0 + k * 8 + 6, none⟩ = some (.int .i64 y.kn) ∧ w'.cell? ⟨b0, o0 + k * 8 + 7, none⟩ = some (.int .i64 y.no)) ∧ Below wr.heap.size wr w')
            (first | exact ⟨hA1, hA2, (Below.refl _ _).drew⟩ | exact keep2F (by assumption) (by assumption))
            (first | (go_at_call 30; refine (HC.out _).mono ?_; rintro e w' ⟨rfl, hb⟩))
          have hBr : Below w.heap.size w w' := hB.on ((Below.refl _ _).drew.on hb)
          clear hb HC
          cases hbf : befB x y
          · have HBF := Lib.hid hbf
            go_wp2_with fail
            go_ret
            exact ⟨ret_int (checkF_41 HV.out (ord_bad HX.out HY.out HBF.out)).symm, hBr⟩
          · have HBF := Lib.hid hbf
            go_wp2_with fail
            go_roundw
            case rel => exact ⟨k + 1, by omega, by omega, by go_num, Lib.hid (by have h := ord_step HM.out HX.out HY.out HBF.out; rw [show k - 1 + 1 = k + 1 - 1 by omega] at h; exact h), hBr⟩
            case measure => simp [intOf]; omega
        · go_wp2_with fail
          go_ret
          exact ⟨ret_int (checkF_0 HV.out (ord_end HM.out (by rw [hl0.out]; omega))).symm, hB⟩
end Go.Proofs.Ytfhekhjojdhmhaa
