/- Slices of changes (a key and its spans); contract of ref.SameDiffers. -/
import Derived.Test.YtfhekhjojdhmhaaFPt
import Derived.WalkKit
import Derived.WalkSpells
import Derived.WalkLawsBesides
import Derived.Deep.LoopGhost
import Derived.Deep.QuietTactic
import Derived.BigQuiet
import Derived.StillTailTactics
import Derived.Lib.Hide
import Derived.Outline
import Derived.Lib.QuietBelow
namespace Go.Proofs.Ytfhekhjojdhmhaa
open Go.RowKit

abbrev Dif := Key × List (Int × Int)
def encD (u : Key × Value) : List Value := [iv u.1.kd, iv u.1.sb, iv u.1.ob, u.2]
theorem encD_len (u : Key × Value) : (encD u).length = 4 := rfl
/-- What the slots hold: each one's key and its spans. -/
structure DEl (w : World) (us : List (Key × Value)) (ds : List Dif) : Prop where
  len : us.length = ds.length
  el : ∀ (i : Nat) (u : Key × Value) (d : Dif), us[i]? = some u → ds[i]? = some d → u.1 = d.1 ∧ ∃ a n c, u.2 = .slice a n c ∧ SL encP 2 w a n c d.2
theorem DEl.below {w w' : World} {us : List (Key × Value)} {ds : List Dif} (h : DEl w us ds) (hb : Below w.heap.size w w') : DEl w' us ds :=
  ⟨h.len, fun i u d hu hd => let ⟨e, a, n, c, h1, h2⟩ := h.el i u d hu hd; ⟨e, a, n, c, h1, h2.below hb⟩⟩
theorem DEl.nil (w : World) : DEl w [] [] := ⟨rfl, fun i u d h => by simp at h⟩
theorem DEl.snoc {w' : World} {us : List (Key × Value)} {ds : List Dif} {k : Key} {a : Option Addr} {n c : Nat} {l : List (Int × Int)} (h : ∀ (i : Nat) (u : Key × Value) (d : Dif), us[i]? = some u → ds[i]? = some d → u.1 = d.1 ∧ ∃ a n c, u.2 = .slice a n c ∧ SL encP 2 w' a n c d.2) (hl : us.length = ds.length) (hs : SL encP 2 w' a n c l) : DEl w' (us ++ [(k, .slice a n c)]) (ds ++ [(k, l)]) := by
  refine ⟨by simp [hl], fun i u d hu hd => ?_⟩
  by_cases hi : i < us.length
  · rw [List.getElem?_append_left hi] at hu
    rw [List.getElem?_append_left (by omega)] at hd
    exact h i u d hu hd
  · have hi2 := (List.getElem?_eq_some_iff.1 hu).1
    have : i = us.length := by simp at hi2; omega
    subst this
    rw [List.getElem?_append_right (Nat.le_refl _)] at hu
    rw [hl, List.getElem?_append_right (Nat.le_refl _)] at hd
    simp at hu hd
    subst hu; subst hd
    exact ⟨rfl, _, _, _, rfl, hs⟩
/-- The slice value (a, n, c) holds the changes ds. -/
def DL (w : World) (a : Option Addr) (n c : Nat) (ds : List Dif) : Prop := ∃ us, SL encD 4 w a n c us ∧ DEl w us ds
theorem DL.below {w w' : World} {a : Option Addr} {n c : Nat} {ds : List Dif} (h : DL w a n c ds) (hb : Below w.heap.size w w') : DL w' a n c ds := let ⟨us, h1, h2⟩ := h; ⟨us, h1.below hb, h2.below hb⟩
theorem DL.len {w : World} {a : Option Addr} {n c : Nat} {ds : List Dif} (h : DL w a n c ds) : ds.length = n := let ⟨_us, h1, h2⟩ := h; h2.len ▸ h1.len
theorem DL.cap {w : World} {a : Option Addr} {n c : Nat} {ds : List Dif} (h : DL w a n c ds) : n ≤ c ∧ c ≤ maxLen := let ⟨_us, h1, _h2⟩ := h; ⟨h1.cap, h1.mx⟩
theorem DL.at' {w : World} {a : Option Addr} {n c : Nat} {ds : List Dif} (h : DL w a n c ds) (hn : 0 < n) : ∃ b o, a = some ⟨b, o, none⟩ ∧ b < w.heap.size := let ⟨_us, h1, _h2⟩ := h; h1.at' hn
theorem DL.get {w : World} {a : Option Addr} {n c : Nat} {ds : List Dif} (h : DL w a n c ds) {i : Nat} (hi : i < n) : ∃ x, ds[i]? = some x := ⟨_, List.getElem?_eq_getElem (by rw [h.len]; exact hi)⟩
theorem DL.el {w : World} {b o n c : Nat} {ds : List Dif} (h : DL w (some ⟨b, o, none⟩) n c ds) {i : Nat} {d : Dif} (hd : ds[i]? = some d) :
    w.cell? ⟨b, o + i * 4, none⟩ = some (.int .i64 d.1.kd) ∧ w.cell? ⟨b, o + i * 4 + 1, none⟩ = some (.int .i64 d.1.sb) ∧ w.cell? ⟨b, o + i * 4 + 2, none⟩ = some (.int .i64 d.1.ob) ∧
    ∃ a' n' c', w.cell? ⟨b, o + i * 4 + 3, none⟩ = some (.slice a' n' c') ∧ SL encP 2 w a' n' c' d.2 := by
  obtain ⟨us, h1, h2⟩ := h
  obtain ⟨u, hu⟩ : ∃ u, us[i]? = some u := ⟨_, List.getElem?_eq_getElem (by rw [h2.len]; exact (List.getElem?_eq_some_iff.1 hd).1)⟩
  obtain ⟨e, a', n', c', hs, hS⟩ := h2.el i u d hu hd
  have c0 := h1.cell b o rfl i u hu 0 _ rfl
  have c1 := h1.cell b o rfl i u hu 1 _ rfl
  have c2 := h1.cell b o rfl i u hu 2 _ rfl
  have c3 := h1.cell b o rfl i u hu 3 _ rfl
  rw [e] at c0 c1 c2
  rw [hs] at c3
  exact ⟨c0, c1, c2, a', n', c', c3, hS⟩
def RetDL (w : World) (E : TypeId) (ds : List Dif) (e : Ending) (w' : World) : Prop := ∃ v us, e = .returned v ∧ OwnSL encD 4 w' w.heap.size E v us ∧ DEl w' us ds ∧ Below w.heap.size w w'

theorem dif_ne {l m : List Dif} {k : Nat} {x y : Dif} (hx : l[k]? = some x) (hy : m[k]? = some y) (h : x ≠ y) : l ≠ m := by
  rintro rfl; exact h (by have := hx.symm.trans hy; injection this)

set_option maxRecDepth 10000 in
set_option maxHeartbeats 4000000 in
theorem sameDiffers_any (a0 a1 : Option Addr) (n0 c0 n1 c1 : Nat) (l m : List Dif) (w : World) (h0 : DL w a0 n0 c0 l) (h1 : DL w a1 n1 c1 m) :
    Calls Try.prog 23 #[.slice a0 n0 c0, .slice a1 n1 c1] w fun e w' => e = .returned (.bool (decide (l = m))) ∧ ∃ k, w' = w.drewN k := by
  have hc0 := h0.cap
  have hc1 := h1.cap
  have hl0 := Lib.hid h0.len
  have hl1 := Lib.hid h1.len
  have hg := guard_key
  have hg2 := guard_span
  unfold maxLen at hc0 hc1
  by_cases hn : n0 = n1
  · subst hn
    go_enter Try.func23, Try.ntmps23
    go_wp2_with fail
    go_loopw [5] (fun i wr => ∃ k : Nat, k ≤ n0 ∧ i = .int .i64 k ∧ Hid (sameUpto l m k) ∧ ∃ q, wr = w.drewN q) (fun i _ => n0 - (intOf i).toNat)
    case atStart => exact ⟨0, by omega, rfl, Lib.hid rfl, 0, rfl⟩
    case round =>
      obtain ⟨k, hk, rfl, HM, q, rfl⟩ := hrel
      by_cases hlt : k < n0
      · obtain ⟨b0, o0, rfl, hb0⟩ := h0.at' (by omega)
        obtain ⟨b1, o1, rfl, hb1⟩ := h1.at' (by omega)
        obtain ⟨x, hx⟩ := h0.get hlt
        obtain ⟨y, hy⟩ := h1.get hlt
        obtain ⟨e0, e1, e2, xa, xn, xc, e3, hSx⟩ := h0.el hx
        obtain ⟨f0, f1, f2, ya, yn, yc, f3, hSy⟩ := h1.el hy
        have HX := Lib.hid hx
        have HY := Lib.hid hy
        have hE : ∀ w, (Op.equalIn 10000 24 (keyV x.1) (keyV y.1)).run Try.prog w = .ok (decide (x.1 = y.1)) w := eqInD_key 9998 _ _
        have xl := Lib.hid hSx.len
        have yl := Lib.hid hSy.len
        have xm := hSx.mx
        have xcc := hSx.cap
        have ym := hSy.mx
        have ycc := hSy.cap
        unfold maxLen at xm ym
        clear hx hy
        by_cases hxy : x.1 = y.1
        · have HXY := Lib.hid hxy
          rw [decide_eq_true hxy] at hE
          clear hxy
          by_cases hnn : xn = yn
          · subst hnn
            go_wp2_with (go_quiet (fail))
            go_loopw [6] (fun i wr => ∃ j : Nat, j ≤ xn ∧ i = .int .i64 j ∧ Hid (sameUpto x.2 y.2 j) ∧ ∃ q, wr = w.drewN q) (fun i _ => xn - (intOf i).toNat)
            case atStart => exact ⟨0, by omega, rfl, Lib.hid rfl, (by first | exact ⟨_, rfl⟩ | exact ⟨_, World.drewN_drewN⟩ | exact ⟨0, rfl⟩ | exact ⟨_, by simp only [World.drewN_drewN]; rfl⟩)⟩
            case round =>
              obtain ⟨j, hj, rfl, HM2, q, rfl⟩ := hrel
              by_cases hlt2 : j < xn
              · obtain ⟨b2, o2, rfl, hb2⟩ := hSx.at' (by omega)
                obtain ⟨b3, o3, rfl, hb3⟩ := hSy.at' (by omega)
                obtain ⟨u, hu⟩ := hSx.get hlt2
                obtain ⟨v, hv⟩ := hSy.get hlt2
                obtain ⟨p0, p1⟩ := hSx.pair hu
                obtain ⟨r0, r1⟩ := hSy.pair hv
                have HU := Lib.hid hu
                have HV := Lib.hid hv
                have hE2 : ∀ w, (Op.equalIn 10000 26 (.agg #[.int .i64 u.1, .int .i64 u.2]) (.agg #[.int .i64 v.1, .int .i64 v.2])).run Try.prog w = .ok (decide (u.1 = v.1 ∧ u.2 = v.2)) w := eqInD_span 9998 _ _ _ _
                rw [pair_eq] at hE2
                clear hu hv
                by_cases huv : u = v
                · have HUV := Lib.hid huv
                  rw [decide_eq_true huv] at hE2
                  clear huv
                  go_wp2_with (go_quiet (fail))
                  go_roundw
                  case rel => exact ⟨j + 1, by omega, by go_num, Lib.hid (same_step HM2.out HU.out (by rw [HUV.out]; exact HV.out)), (by first | exact ⟨_, rfl⟩ | exact ⟨_, World.drewN_drewN⟩ | exact ⟨0, rfl⟩ | exact ⟨_, by simp only [World.drewN_drewN]; rfl⟩)⟩
                  case measure => simp [intOf]; omega
                · have HUV := Lib.hid huv
                  rw [decide_eq_false huv] at hE2
                  clear huv
                  go_wp2_with (go_quiet (fail))
                  go_ret
                  refine ⟨ret_bool ?_, (by first | exact ⟨_, rfl⟩ | exact ⟨_, World.drewN_drewN⟩ | exact ⟨0, rfl⟩ | exact ⟨_, by simp only [World.drewN_drewN]; rfl⟩)⟩
                  symm
                  rw [decide_eq_false_iff_not]
                  exact dif_ne HX.out HY.out (fun e => HUV.out (by have := HU.out; rw [e, HV.out] at this; injection this with this; exact this.symm))
              · obtain rfl : xn = j := by omega
                go_wp2_with fail
                go_roundw
                case rel => exact ⟨k + 1, by omega, by go_num, Lib.hid (same_step HM.out HX.out (by rw [show x = y from Prod.ext HXY.out (same_end HM2.out (by rw [xl.out]; omega) (by rw [yl.out]; omega))]; exact HY.out)), (by first | exact ⟨_, rfl⟩ | exact ⟨_, World.drewN_drewN⟩ | exact ⟨0, rfl⟩ | exact ⟨_, by simp only [World.drewN_drewN]; rfl⟩)⟩
                case measure => simp [intOf]; omega
          · have t0 : ((xn : Int) != (yn : Int)) = true := by simp; omega
            have HN := Lib.hid hnn
            clear hnn
            go_wp2_with (go_quiet (fail))
            go_ret
            refine ⟨ret_bool ?_, (by first | exact ⟨_, rfl⟩ | exact ⟨_, World.drewN_drewN⟩ | exact ⟨0, rfl⟩ | exact ⟨_, by simp only [World.drewN_drewN]; rfl⟩)⟩
            symm
            rw [decide_eq_false_iff_not]
            exact dif_ne HX.out HY.out (fun e => HN.out (by rw [← xl.out, ← yl.out, e]))
        · have HXY := Lib.hid hxy
          rw [decide_eq_false hxy] at hE
          clear hxy
          go_wp2_with (go_quiet (fail))
          go_ret
          refine ⟨ret_bool ?_, (by first | exact ⟨_, rfl⟩ | exact ⟨_, World.drewN_drewN⟩ | exact ⟨0, rfl⟩ | exact ⟨_, by simp only [World.drewN_drewN]; rfl⟩)⟩
          symm
          rw [decide_eq_false_iff_not]
          exact dif_ne HX.out HY.out (fun e => HXY.out (by rw [e]))
      · obtain rfl : n0 = k := by omega
        go_wp2_with fail
        go_ret
        refine ⟨ret_bool ?_, (by first | exact ⟨_, rfl⟩ | exact ⟨_, World.drewN_drewN⟩ | exact ⟨0, rfl⟩ | exact ⟨_, by simp only [World.drewN_drewN]; rfl⟩)⟩
        symm
        rw [decide_eq_true_eq]
        exact same_end HM.out (by rw [hl0.out]; omega) (by rw [hl1.out]; omega)
  · have t0 : ((n0 : Int) != (n1 : Int)) = true := by simp; omega
    have HN := Lib.hid hn
    clear hn
    go_enter Try.func23, Try.ntmps23
    go_wp2_with fail
    go_ret
    refine ⟨ret_bool ?_, 0, rfl⟩
    symm
    rw [decide_eq_false_iff_not]
    rintro rfl
    exact HN.out (hl0.out.symm.trans hl1.out)
end Go.Proofs.Ytfhekhjojdhmhaa
