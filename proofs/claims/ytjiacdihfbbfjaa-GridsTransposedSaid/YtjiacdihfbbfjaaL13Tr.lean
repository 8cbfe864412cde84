/- For every square grid, if columns and rows are exchanged, its rows become columns, its columns rows, and neighbors neighbors (law13.GridsTransposed), at every input. -/
import Derived.Deep.RegionHeld3
import Derived.Test.YtjiacdihfbbfjaaTrM
import Derived.Test.YtjiacdihfbbfjaaImgT
import Derived.Test.YtjiacdihfbbfjaaLawIn
import Derived.Test.YtjiacdihfbbfjaaLGs
import Derived.Test.YtjiacdihfbbfjaaRowX
import Derived.Test.YtjiacdihfbbfjaaHeadF
import Derived.WalkKit
import Derived.WalkSpells
import Derived.WalkLawsBesides
import Derived.Deep.LoopGhost
import Derived.Deep.QuietTactic
import Derived.BigQuiet
import Derived.StillTailTactics
import Derived.Lib.Hide
import Derived.Outline
import Derived.Lib.QuietBelow
namespace Go.Proofs.Ytjiacdihfbbfjaa
open Go.ChangeShapes Go.WideShapes Go.ChangeAt Go.RowKit Go.Deep

def arrT (l : List Int) : Array Value := (l.map (Value.int .i64)).toArray
theorem arrT_size (l : List Int) : (arrT l).size = l.length := by unfold arrT; simp
theorem arrT_get (l : List Int) {i : Nat} (h : i < l.length) : (arrT l)[i]? = some (.int .i64 (l[i]?.getD 0)) := by unfold arrT; simp [h]
theorem arrT_set (l : List Int) (i : Nat) (x : Int) : (arrT l).setIfInBounds i (.int .i64 x) = arrT (l.set i x) := by unfold arrT; simp
theorem arrT_made (n : Nat) : madeCells #[.int .i64 0] n = arrT (List.replicate n 0) := by
  apply Array.ext
  · rw [arrT_size, size_madeCells]; simp
  · intro i h1 h2
    simp [madeCells, arrT, Nat.mod_one]
theorem arrT_ints {w : World} {B n : Nat} {l : List Int} (h : Box w B (arrT l) 3) (hl : l.length = n) (hn : n ≤ 1000000) : Ints w (some ⟨B, 0, none⟩) n n l := by
  subst hl; exact ints_lit l h rfl hn
/-- The first k entries of the table. -/
def tabT (w h : Int) (g t : Grid) (n k : Nat) : List Int := (List.range n).map fun c => if c < k then toF w h g t c else 0
theorem tabT_len (w h : Int) (g t : Grid) (n k : Nat) : (tabT w h g t n k).length = n := by unfold tabT; simp
theorem tabT_zero (w h : Int) (g t : Grid) (n : Nat) : tabT w h g t n 0 = List.replicate n 0 := by
  unfold tabT
  apply List.ext_getElem
  · simp
  · intro i h1 h2; simp
theorem tabT_set (w h : Int) (g t : Grid) {n k : Nat} : (tabT w h g t n k).set k (toF w h g t k) = tabT w h g t n (k + 1) := by
  unfold tabT
  apply List.ext_getElem
  · simp
  · intro i h1 h2
    simp only [List.length_map, List.length_range] at h2
    rw [List.getElem_set]
    simp only [List.getElem_map, List.getElem_range]
    by_cases e : k = i
    · subst e; rw [if_pos rfl, if_pos (by omega)]
    · rw [if_neg e]
      by_cases h3 : i < k
      · rw [if_pos h3, if_pos (by omega)]
      · rw [if_neg h3, if_neg (by omega)]
theorem tabT_get (w h : Int) (g t : Grid) {n c : Nat} (hc : c < n) : (tabT w h g t n n)[c]?.getD 0 = toF w h g t c := by unfold tabT; simp [hc]
theorem img_toV {w h : Int} {g t : Grid} {n : Nat} {l : List Int} (hl : okL n l) : imgV (tabT w h g t n n) l = toV w h g t l := by
  unfold imgV toV
  exact List.map_congr_left fun c hc => tabT_get w h g t (by have := hl.2 c hc; omega)
theorem img_rows {w h : Int} {g t : Grid} {n : Nat} {ll : List (List Int)} (hl : ∀ l ∈ ll, okL n l) : ll.map (imgV (tabT w h g t n n)) = ll.map (toV w h g t) := List.map_congr_left fun l hm => img_toV (hl l hm)
theorem checkT_made {s w h : Int} {l : List Int} {g : Grid} (hg : makeL s w h l = some g) : checkErr g = 0 := by
  obtain ⟨hv, h1, h2, h3, h4⟩ := valid_make hg
  rcases checkErr_cases g with ⟨h, _⟩ | ⟨_, h⟩
  · exact h
  · exact absurd hv h
/-- The numbers inside a drawn region. -/
theorem arith_T {w h p : Int} (hw : 1 ≤ w ∧ w ≤ 16) (hh : 1 ≤ h ∧ h ≤ 16) (hp : 0 ≤ p ∧ p < 256) : IntKind.i64.wrap (IntKind.i64.wrap (p.tmod h * w) + p.tdiv h) = trP h w p := by
  have e1 : p.tmod h = p % h := Int.tmod_eq_emod_of_nonneg hp.1
  have e2 : p.tdiv h = p / h := Int.tdiv_eq_ediv_of_nonneg hp.1
  have b1 : 0 ≤ p % h ∧ p % h < h := ⟨Int.emod_nonneg _ (by omega), Int.emod_lt_of_pos _ (by omega)⟩
  have b2 : 0 ≤ p / h ∧ p / h ≤ p := ⟨Int.ediv_nonneg hp.1 (by omega), Int.ediv_le_self _ hp.1⟩
  have b3 : 0 ≤ p % h * w := Int.mul_nonneg b1.1 (by omega)
  have b4 : p % h * w ≤ 16 * 16 := Int.mul_le_mul (by omega) hw.2 (by omega) (by omega)
  rw [e1, e2, IntWalk.i64_in (p % h * w) (by omega), IntWalk.i64_in _ (by omega)]
  rfl
theorem arith_D {w h p : Int} (hw : 1 ≤ w ∧ w ≤ 16) (hh : 1 ≤ h ∧ h ≤ 16) (hp : 0 ≤ p ∧ p < 256) : IntKind.i64.wrap (IntKind.i64.wrap (p.tmod h * w) + IntKind.i64.wrap (p.tdiv h)) = trP h w p := by
  have e2 : p.tdiv h = p / h := Int.tdiv_eq_ediv_of_nonneg hp.1
  have b2 : 0 ≤ p / h ∧ p / h ≤ p := ⟨Int.ediv_nonneg hp.1 (by omega), Int.ediv_le_self _ hp.1⟩
  rw [IntWalk.i64_in (p.tdiv h) (by rw [e2]; omega)]
  exact arith_T hw hh hp
theorem arith_E {w h p : Int} (hw : 1 ≤ w ∧ w ≤ 16) (hh : 1 ≤ h ∧ h ≤ 16) (hp : 0 ≤ p ∧ p < 256) : wrap64 (wrap64 (p % h * w) + p / h) = trP h w p := by
  have b1 : 0 ≤ p % h ∧ p % h < h := ⟨Int.emod_nonneg _ (by omega), Int.emod_lt_of_pos _ (by omega)⟩
  have b2 : 0 ≤ p / h ∧ p / h ≤ p := ⟨Int.ediv_nonneg hp.1 (by omega), Int.ediv_le_self _ hp.1⟩
  have b3 : 0 ≤ p % h * w := Int.mul_nonneg b1.1 (by omega)
  have b4 : p % h * w ≤ 16 * 16 := Int.mul_le_mul (by omega) hw.2 (by omega) (by omega)
  rw [IntWalk.wrap64_in (p % h * w) (by omega), IntWalk.wrap64_in _ (by omega)]
  rfl
theorem tr_keep {w0 w w' : World} {B X Y : Nat} {v0 v1 v2 v3 v4 : Value} {cx cy : Array Value} {tx ty : TypeId} (h : w.cell? ⟨B, 0, none⟩ = some v0 ∧ w.cell? ⟨B, 1, none⟩ = some v1 ∧ w.cell? ⟨B, 2, none⟩ = some v2 ∧ w.cell? ⟨B, 3, none⟩ = some v3 ∧ w.cell? ⟨B, 4, none⟩ = some v4 ∧ Box w X cx tx ∧ Box w Y cy ty ∧ Below w0.heap.size w0 w) (hb : Below w.heap.size w w') :
    w'.cell? ⟨B, 0, none⟩ = some v0 ∧ w'.cell? ⟨B, 1, none⟩ = some v1 ∧ w'.cell? ⟨B, 2, none⟩ = some v2 ∧ w'.cell? ⟨B, 3, none⟩ = some v3 ∧ w'.cell? ⟨B, 4, none⟩ = some v4 ∧ Box w' X cx tx ∧ Box w' Y cy ty ∧ Below w0.heap.size w0 w' := by
  obtain ⟨h0, h1, h2, h3, h4, h5, h6, h7⟩ := h
  obtain ⟨a0, a1, a2, a3, a4, a5⟩ := g5_keep (B := B) ⟨h0, h1, h2, h3, h4, h7⟩ hb
  exact ⟨a0, a1, a2, a3, a4, h5.below hb, h6.below hb, a5⟩
set_option maxRecDepth 40000 in
set_option maxHeartbeats 8000000 in
theorem law13Tr_any (w h : Int) (a0 : Option Addr) (n0 c0 : Nat) (holes : List Int) (W : World) (h0 : Ints W a0 n0 c0 holes) :
    Calls Try.prog 16 #[.int .i64 w, .int .i64 h, .slice a0 n0 c0] W fun e w' => e = .returned (.bool true) ∧ Below W.heap.size W w' := by
  have hm0 := h0.mx
  have hc0 := h0.cap
  unfold maxLen at hm0
  by_cases h300 : 300 < n0
  · have t1 : decide (300 < (n0 : Int)) = true := by simp; omega
    have t2 : decide (300 < n0) = true := by simp; omega
    go_enter Try.func16, Try.ntmps16
    go_wp2_with fail
    refine (sane13_any _).mono ?_
    rintro e w1 ⟨rfl, hB1⟩
    go_wp2_with fail
    go_ret
    exact ⟨rfl, hB1⟩
  have t1 : decide (300 < (n0 : Int)) = false := by simp; omega
  have t2 : decide (300 < n0) = false := by simp; omega
  cases hmk : makeL 1 w h holes with
  | none =>
    have HM := Lib.hid hmk
    clear hmk
    go_enter Try.func16, Try.ntmps16
    go_wp2_with fail
    refine (sane13_any _).mono ?_
    rintro e w1 ⟨rfl, hB1⟩
    go_wp2_with fail
    refine (make_none (h0.below hB1) (by omega) HM.out).mono ?_
    rintro e w2 ⟨v2, rfl, ⟨a3, n3, c3, a4, n4, c4, rfl, I3, I4, _, _⟩, hA⟩
    go_wp2_with fail
    go_ret
    exact ⟨rfl, (hB1.on hA).alloc (Nat.le_trans hB1.size hA.size) _⟩
  | some g =>
  obtain ⟨hv, e1, e2, e3, e4⟩ := valid_make hmk
  have hd := hv.dims
  have har := hv.area
  rw [e2, e3] at hd har
  have hdw : (1 ≤ w ∧ w ≤ 16) ∧ 1 ≤ h ∧ h ≤ 16 := ⟨⟨hd.2.1, hd.2.2.1⟩, hd.2.2.2.1, hd.2.2.2.2⟩
  obtain ⟨⟨b1, b2⟩, b3, b4⟩ := hdw
  have hAA : ∃ A : Nat, w * h = A := ⟨(w * h).toNat, by omega⟩
  obtain ⟨A, hA⟩ := hAA
  rw [hA] at har
  obtain ⟨hA1, hA2⟩ : 1 ≤ A ∧ A ≤ 256 := by omega
  obtain ⟨t, T⟩ := turn_make hmk hA
  have HT := Lib.hid T
  have HM := Lib.hid hmk
  have HE4 := Lib.hid e4
  have u1 : decide (w < 1) = false := by simp; omega
  have u2 : decide (16 < w) = false := by simp; omega
  have u3 : decide (h < 1) = false := by simp; omega
  have u4 : decide (16 < h) = false := by simp; omega
  have u5 : (h == 0) = false := by rw [beq_eq_false_iff_ne]; omega
  have u6 : (w == 0) = false := by rw [beq_eq_false_iff_ne]; omega
  have u7 : ¬ h = 0 := by omega
  have u8 : ¬ w = 0 := by omega
  clear hmk hv hd har e1 e2 e3 e4 T
  obtain ⟨i3, hi3, hz30, hz31, hz32⟩ := info_parts info_int
  go_enter Try.func16, Try.ntmps16
  go_wp2_with fail
  refine (sane13_any _).mono ?_
  rintro e w1 ⟨rfl, hB1⟩
  go_wp2_with fail
  refine (make_some (h0.below hB1) (by omega) HM.out).mono ?_
  rintro e w2 ⟨v2, rfl, ⟨ah, nh, ch, ac, nc, cc, rfl, I1, I2, _, _⟩, hA3⟩
  have hB2 := hB1.on hA3
  have hJ := (h0.below hB1).below hA3
  have hbx := Box.new w2 #[.int .i64 g.shape, .int .i64 g.w, .int .i64 g.h, .slice ah nh ch, .slice ac nc cc] 24
  have hal : Below w2.heap.size w2 (w2.alloc (.cells #[.int .i64 g.shape, .int .i64 g.w, .int .i64 g.h, .slice ah nh ch, .slice ac nc cc] 24)) := (Below.refl _ _).alloc (Nat.le_refl _) _
  obtain ⟨w3, hw3⟩ : ∃ w3, w2.alloc (.cells #[.int .i64 g.shape, .int .i64 g.w, .int .i64 g.h, .slice ah nh ch, .slice ac nc cc] 24) = w3 := ⟨_, rfl⟩
  have HW3 := Lib.hid hw3
  rw [hw3] at hbx hal
  obtain ⟨gB, hgB⟩ : ∃ gB, w2.heap.size = gB := ⟨_, rfl⟩
  have HGB := Lib.hid hgB
  replace I1 := I1.below hal
  replace I2 := I2.below hal
  replace hJ := hJ.below hal
  replace hB2 := hB2.on hal
  rw [hgB] at hbx
  clear hw3 hal hA3 hB1 hgB
  go_wp2_with fail
  rw [HW3.out, HGB.out]
  go_loopw [9, 65] (fun v c wr => ∃ k : Nat, k ≤ A ∧ c = .int .i64 k ∧ OwnInts wr w3.heap.size 3 v (turnedUpto w h holes k) ∧ Below w3.heap.size w3 wr) (fun _ c _ => A - (intOf c).toNat)
  case atStart => exact ⟨0, by omega, rfl, OwnInts.nil _ _ _, Below.refl _ _⟩
  case round =>
    obtain ⟨k, hk, rfl, hO, hBo⟩ := hrel
    obtain ⟨wo, rfl⟩ : ∃ wo, wo = wr := ⟨_, rfl⟩
    have hso := hBo.size
    by_cases hlt : k < A
    · have hJo := hJ.below hBo
      have har := arith_T (w := w) (h := h) (p := (k : Int)) ⟨b1, b2⟩ ⟨b3, b4⟩ (by omega)
      have HAR := Lib.hid har
      have hae := arith_E (w := w) (h := h) (p := (k : Int)) ⟨b1, b2⟩ ⟨b3, b4⟩ (by omega)
      have HAE := Lib.hid hae
      have hsu := turned_succ w h holes k
      have htl := turned_le w h holes k
      cases hin : inL holes (trP h w k)
      all_goals
        have HI := Lib.hid hin
        have HQ : Hid (∀ (W' : World) (z : Int), z = trP h w k → (∃ q, W' = wo.drewN q) → Calls Try.prog 52 #[.slice a0 n0 c0, .int .i64 z] W' fun e w' => e = .returned (.bool (inL holes (trP h w k))) ∧ ∃ q, w' = W'.drewN q) := Lib.hid fun W' z hz hW => by
          obtain ⟨q, rfl⟩ := hW
          rw [hz]
          exact (lawin_any a0 n0 c0 holes _ _ (hJo.drewN q)).mono fun e w' ⟨h1, h2⟩ => ⟨h1, 0, h2⟩
        rw [hin] at HQ
        have HSU := Lib.hid hsu
        clear har hae hsu hin
      · obtain ⟨K, hK⟩ : ∃ K : Int, (k : Int) = K := ⟨_, rfl⟩
        have hKb1 : 0 ≤ K := by omega
        have hKb2 : K < 256 := by omega
        have tKA : decide (K < (A : Int)) = true := by simp; omega
        rw [hK] at HQ HAR HAE ⊢
        have HK := Lib.hid hK
        have hTS : Hid (turnedUpto w h holes (k + 1) = turnedUpto w h holes k) := Lib.hid (by rw [HSU.out, if_neg (by rw [HI.out]; decide)])
        clear hK
        go_wp2_with fail
        go_quiet ((go_at_call 52; first | exact quiet_ofY (HQ.out _ _ (by first | exact HAR.out | exact HAE.out) ⟨_, rfl⟩) | exact quiet_ofX (HQ.out _ _ (by first | exact HAR.out | exact HAE.out) (by first | exact ⟨_, rfl⟩ | exact ⟨0, rfl⟩)) (by first | exact ⟨_, rfl⟩ | exact ⟨_, World.drewN_drewN.symm⟩ | exact ⟨0, rfl⟩)))
        go_wp2_with fail
        go_roundw
        case rel => exact ⟨k + 1, by omega, by rw [← HK.out]; go_num, by rw [hTS.out]; exact hO.drewN _, below_drewN hBo _⟩
        case measure => have := HK.out; simp [intOf]; omega
      · obtain ⟨a9, c9, rfl, _⟩ := hO.ints
        obtain ⟨L, hL⟩ : ∃ L, (turnedUpto w h holes k).length = L := ⟨_, rfl⟩
        have hOr : wo.ownsRow w3.heap.size 3 1 _ (turnedUpto w h holes k).length ((turnedUpto w h holes k).map (Value.int .i64)) := hO
        rw [hL] at hOr htl ⊢
        have HL := Lib.hid hL
        have hl9 := hOr.lt
        obtain ⟨K, hK⟩ : ∃ K : Int, (k : Int) = K := ⟨_, rfl⟩
        have hKb1 : 0 ≤ K := by omega
        have hKb2 : K < 256 := by omega
        have tKA : decide (K < (A : Int)) = true := by simp; omega
        rw [hK] at HQ HAR HAE ⊢
        have HK := Lib.hid hK
        have hTS : Hid (turnedUpto w h holes (k + 1) = turnedUpto w h holes k ++ [(k : Int)]) := Lib.hid (by rw [HSU.out, if_pos HI.out])
        clear hK hL
        go_wp2_with fail
        go_quiet ((go_at_call 52; first | exact quiet_ofY (HQ.out _ _ (by first | exact HAR.out | exact HAE.out) ⟨_, rfl⟩) | exact quiet_ofX (HQ.out _ _ (by first | exact HAR.out | exact HAE.out) (by first | exact ⟨_, rfl⟩ | exact ⟨0, rfl⟩)) (by first | exact ⟨_, rfl⟩ | exact ⟨_, World.drewN_drewN.symm⟩ | exact ⟨0, rfl⟩)))
        have hOq := ownsRow_drewN hOr nq
        go_wp2_with (at_builtin; refine wpList_append_own2 _ rfl _ _ 22 rfl _ 3 i3 (.int .i64 0) 1 8 Try.underlying22 hi3 hz30 hz31 hz32 rfl (by decide) _ _ _ (hOq.alloc _) rfl ⟨_, 0, none⟩ 1 1 [.int .i64 K] rfl rfl (cell_one_new _ _ _) (by simp [Value.oneCell']) (by unfold maxLen; omega) (by omega) (by first | omega | (simp; omega)) ?_; intro v' w1 hown' hgrow hfr)
        go_roundw
        case rel =>
          refine ⟨k + 1, by omega, by rw [← HK.out]; go_num, ?_, ((below_drewN hBo _).alloc (by simp; omega) _).grown hgrow (by simp; omega) (fun q e => (hl9 q e).1)⟩
          rw [hTS.out]
          refine OwnInts.snoc ?_
          rw [HL.out, HK.out]; exact hown'
        case measure => have := HK.out; simp [intOf]; omega
    · obtain rfl : k = A := by omega
      obtain ⟨a9, c9, rfl, hI9⟩ := hO.ints
      have htl := turned_le w h holes k
      obtain ⟨L, hL⟩ : ∃ L, (turnedUpto w h holes k).length = L := ⟨_, rfl⟩
      rw [hL] at hI9 htl ⊢
      replace I1 := I1.below hBo
      replace I2 := I2.below hBo
      replace hbx := hbx.below hBo
      replace hB2 := hB2.on hBo
      have hmk := make_some (W := wo) hI9 (by omega) HT.out.mt
      have HMK := Lib.hid hmk
      clear hL hO hBo hmk
      go_wp2_with fail
      refine HMK.out.mono ?_
      rintro e w4 ⟨v4, rfl, ⟨bh, mh, dh, bc, mc, dc, rfl, J1, J2, _, _⟩, hA4⟩
      have hmn : mc = nc := by rw [← J2.len, ← I2.len]; exact HT.out.len
      rw [hmn] at J2 ⊢
      clear hmn
      replace I1 := I1.below hA4
      replace I2 := I2.below hA4
      replace hbx := hbx.below hA4
      replace hB2 := hB2.on hA4
      obtain ⟨d0, d1, d2, d3, d4⟩ := hbx.g5
      have hxl := hbx.lt
      have hcc := I2.cap
      have hmc := I2.mx
      have hcd := J2.cap
      have hmd := J2.mx
      unfold maxLen at hmc hmd
      have hn256 : nc ≤ 256 := by rw [← I2.len]; exact (HT.out.gv).1.len
      have hmk2 : ∀ w : World, (Instr.makeSlice 22 (.int .i64 nc) (.int .i64 nc)).run Try.prog w = .ok (.slice (some ⟨w.heap.size, 0, none⟩) nc nc) (w.alloc (.cells (arrT (List.replicate nc 0)) 3)) := fun w => by rw [← arrT_made]; exact make_ints nc (by omega) w
      have tnn : ((nc : Int) != (nc : Int)) = false := by simp
      have hxs1 : gB < w4.heap.size + 1 := by omega
      have hxs2 : gB < w4.heap.size + 1 + 1 := by omega
      clear HMK hI9
      go_wp2_with fail
      obtain ⟨wM, hwM⟩ : ∃ wM, ((w4.alloc (.cells #[.int .i64 t.shape, .int .i64 t.w, .int .i64 t.h, .slice bh mh dh, .slice bc nc dc] 24)).alloc (.cells (arrT (List.replicate nc 0)) 3)).alloc (.cells #[.slice (some ⟨w4.heap.size + 1, 0, none⟩) nc nc] 22) = wM := ⟨_, rfl⟩
      have hM1 : Box wM w4.heap.size #[.int .i64 t.shape, .int .i64 t.w, .int .i64 t.h, .slice bh mh dh, .slice bc nc dc] 24 := by rw [← hwM]; exact ((Box.new _ _ _).alloc _).alloc _
      have hM2 : Box wM (w4.heap.size + 1) (arrT (List.replicate nc 0)) 3 := by
        rw [← hwM]
        have := Box.new (w4.alloc (.cells #[.int .i64 t.shape, .int .i64 t.w, .int .i64 t.h, .slice bh mh dh, .slice bc nc dc] 24)) (arrT (List.replicate nc 0)) 3
        simp only [World.size_alloc] at this
        exact this.alloc _
      have hM3 : Box wM (w4.heap.size + 1 + 1) #[.slice (some ⟨w4.heap.size + 1, 0, none⟩) nc nc] 22 := by
        rw [← hwM]
        have := Box.new ((w4.alloc (.cells #[.int .i64 t.shape, .int .i64 t.w, .int .i64 t.h, .slice bh mh dh, .slice bc nc dc] 24)).alloc (.cells (arrT (List.replicate nc 0)) 3)) #[.slice (some ⟨w4.heap.size + 1, 0, none⟩) nc nc] 22
        simpa using this
      have hMB : Below w4.heap.size w4 wM := by rw [← hwM]; exact (((Below.refl _ _).alloc (Nat.le_refl _) _).alloc (by simp) _).alloc (by simp; omega) _
      rw [hwM]
      obtain ⟨tB, htB⟩ : ∃ tB, w4.heap.size = tB := ⟨_, rfl⟩
      have HTB := Lib.hid htB
      rw [htB] at hM1 hM2 hM3 hxl ⊢
      clear hwM htB d0 d1 d2 d3 d4 hxs1 hxs2 hmk2
      go_loopw [6, 109] (fun v c wr => ∃ j : Nat, j ≤ nc ∧ v = .bool false ∧ c = .int .i64 j ∧ Box wr tB #[.int .i64 t.shape, .int .i64 t.w, .int .i64 t.h, .slice bh mh dh, .slice bc nc dc] 24 ∧ Box wr (tB + 1) (arrT (tabT w h g t nc j)) 3 ∧ Box wr (tB + 1 + 1) #[.slice (some ⟨tB + 1, 0, none⟩) nc nc] 22 ∧ Below w4.heap.size w4 wr) (fun _ c _ => nc - (intOf c).toNat)
      case atStart => exact ⟨0, by omega, rfl, rfl, hM1, by rw [tabT_zero]; exact hM2, hM3, hMB⟩
      case round =>
        clear hM1 hM2 hM3 hMB
        obtain ⟨j, hj, rfl, rfl, hX1, hX2, hX3, hBj⟩ := hrel
        obtain ⟨wj, rfl⟩ : ∃ wj, wj = wr := ⟨_, rfl⟩
        have hg1 := hbx.below hBj
        by_cases hlt2 : j < nc
        · have hI := I2.below hBj
          obtain ⟨b6, o6, hax, hb6⟩ := hI.at' (by omega)
          have e0 := hI.cell b6 o6 hax j hlt2
          have hjn : j < g.cells.length := by rw [I2.len]; exact hlt2
          have hmem := getD_mem g.cells j hjn
          obtain ⟨kk, hkk, ek, _, _, _⟩ := HT.out.at_ hjn
          have htt := (HT.out.to_t hmem).1
          have hpb := (HT.out.mem_g.1 hmem).1
          rw [I2.len] at hkk
          obtain ⟨P, hP⟩ : ∃ P, g.cells[j]?.getD 0 = P := ⟨_, rfl⟩
          have hek : idxL t.cells (trP w h P) = kk := by rw [← hP]; exact ek
          rw [hP] at e0 htt hpb
          have hpb2 : 0 ≤ P ∧ P < 256 := by omega
          obtain ⟨hp0, hp1⟩ := hpb2
          have HAR := Lib.hid (arith_T (w := h) (h := w) (p := P) ⟨b3, b4⟩ ⟨b1, b2⟩ ⟨hp0, hp1⟩)
          have HAE := Lib.hid (arith_E (w := h) (h := w) (p := P) ⟨b3, b4⟩ ⟨b1, b2⟩ ⟨hp0, hp1⟩)
          have HAD := Lib.hid (arith_D (w := h) (h := w) (p := P) ⟨b3, b4⟩ ⟨b1, b2⟩ ⟨hp0, hp1⟩)
          have hJJ1 := J1.below hBj
          have hJJ2 := J2.below hBj
          have HCE : Hid (∀ (W' : World) (z : Int), z = trP w h P → Below wj.heap.size wj W' → Calls Try.prog 40 #[.agg #[.int .i64 t.shape, .int .i64 t.w, .int .i64 t.h, .slice bh mh dh, .slice bc nc dc], .int .i64 z] W' fun e w' => e = .returned (.tuple #[.int .i64 (kk : Nat), .bool true]) ∧ Below W'.heap.size W' w') := Lib.hid fun W' z hz hW => by
            have := gcell_any t bh bc mh dh nc dc z W' (hJJ1.below hW) (hJJ2.below hW) (by have h1 := J1.len; rw [HT.out.tv.2.2.2.2] at h1; have := turned_le w h holes k; omega) (by omega)
            have hco : cellOut t z = ((kk : Int), true) := by
              unfold cellOut cellL
              have hinl : inL t.cells (trP w h P) = true := List.contains_iff_mem.2 htt
              rw [if_pos (checkT_made HT.out.mt), hz, hinl, if_pos rfl, hek]
            rw [hco] at this
            exact this
          have HEK : Hid (toF w h g t j = kk) := Lib.hid ek
          subst hax
          obtain ⟨y0, y1, y2, y3, y4⟩ := hX1.g5
          have hyl := hX1.lt
          have HG1 := Lib.hid hg1
          have HX1 := Lib.hid hX1
          have HX2 := Lib.hid hX2
          have HX3 := Lib.hid hX3
          have tk1 : decide ((kk : Int) < 0) = false := by simp
          have tk2 : decide ((nc : Int) ≤ (kk : Int)) = false := by simp; omega
          have tk3 : decide (nc ≤ kk) = false := by simp; omega
          clear hmem ek htt hpb hP hek hI hg1 hX1 hX2 hX3 hJJ1 hJJ2 hjn
          go_wp2_with fail
          go_region_held3 (fun w' => w'.cell? ⟨tB, 0, none⟩ = some (.int .i64 t.shape) ∧ w'.cell? ⟨tB, 1, none⟩ = some (.int .i64 t.w) ∧ w'.cell? ⟨tB, 2, none⟩ = some (.int .i64 t.h) ∧ w'.cell? ⟨tB, 3, none⟩ = some (.slice bh mh dh) ∧ w'.cell? ⟨tB, 4, none⟩ = some (.slice bc nc dc) ∧ Box w' (tB + 1) (arrT (tabT w h g t nc j)) 3 ∧ Box w' (tB + 1 + 1) #[.slice (some ⟨tB + 1, 0, none⟩) nc nc] 22 ∧ Below wj.heap.size wj w')
            (first | exact ⟨y0, y1, y2, y3, y4, HX2.out.drewN 1, HX3.out.drewN 1, (Below.refl _ _).drew⟩ | exact tr_keep (by assumption) (by assumption))
            (first | (go_at_call 40; refine (HCE.out _ _ (by first | exact HAR.out | exact HAD.out | exact HAE.out) (by first | exact (Below.refl _ _).drew | (go_split_ands; assumption))).mono ?_; rintro e w' ⟨rfl, hb⟩))
          go_split_ands
          have hxa : Box w' (tB + 1) (arrT (tabT w h g t nc j)) 3 := by assumption
          have hxs : Box w' (tB + 1 + 1) #[.slice (some ⟨tB + 1, 0, none⟩) nc nc] 22 := by assumption
          have hB7 : Below wj.heap.size wj w' := by assumption
          have s2 := hxs.lt
          have s3 : w'.cell? ⟨tB + 1 + 1, 0, none⟩ = some (Value.slice (some ⟨tB + 1, 0, none⟩) nc nc) := hxs.cell 0
          have x1 := hxa.cell j
          rw [arrT_get _ (by rw [tabT_len]; exact hlt2)] at x1
          have x2 := hxa.frozen j
          have x3 := hxa.lt
          have hgl := HG1.out.lt
          have hs7 := hB7.size
          obtain ⟨old, hold⟩ : ∃ old, (tabT w h g t nc j)[j]?.getD 0 = old := ⟨_, rfl⟩
          rw [hold] at x1
          clear hold hb
          go_wp2_with fail
          go_roundw
          case rel =>
            refine ⟨j + 1, by omega, rfl, by go_num, ?_, ?_, ?_, (hBj.on hB7).setCell (p := ⟨tB + 1, j, none⟩) (by have := HTB.out; simp; omega) _⟩
            · exact (HX1.out.below hB7).setOther _ (by simp)
            · have := hxa.set j (.int .i64 (kk : Int))
              rw [arrT_set, ← HEK.out, tabT_set] at this
              rw [← HEK.out]
              exact this
            · exact hxs.setOther _ (by simp)
          case measure => simp [intOf]; omega
        · obtain rfl : j = nc := by omega
          have HX1 := Lib.hid hX1
          have hT := arrT_ints hX2 (tabT_len w h g t j j) (by omega)
          have hgB1 := hbx.below hBj
          obtain ⟨d0, d1, d2, d3, d4⟩ := hgB1.g5
          have hgl := hgB1.lt
          obtain ⟨y0, y1, y2, y3, y4⟩ := hX1.g5
          have hyl := hX1.lt
          have HVG := Lib.hid (HT.out.gv).1
          have HVT := Lib.hid (HT.out.tv).1
          have heg := checkT_made HT.out.mg
          have het := checkT_made HT.out.mt
          have hng := I2.len
          have hnt := J2.len
          have hgnh : nh ≤ 10000000 := by have h1 := I1.len; rw [HE4.out, h0.len] at h1; omega
          have htmh : mh ≤ 10000000 := by have h1 := J1.len; rw [(HT.out.tv).2.2.2.2] at h1; have := turned_le w h holes k; omega
          have hfg : ∀ f, 0 ≤ f ∧ f ≤ 7 → famOut g f = famL g f ∧ famErr g f = 0 := fun f hf => by unfold famOut famErr; rw [if_pos heg, if_pos heg, if_pos hf]; exact ⟨rfl, rfl⟩
          have hft : ∀ f, 0 ≤ f ∧ f ≤ 7 → famOut t f = famL t f ∧ famErr t f = 0 := fun f hf => by unfold famOut famErr; rw [if_pos het, if_pos het, if_pos hf]; exact ⟨rfl, rfl⟩
          have C1 := fun W a b => fam_any 1 g ah ac nh ch j cc W a b hgnh (by omega)
          have C2 := fun W a b => fam_any 2 g ah ac nh ch j cc W a b hgnh (by omega)
          have C3 := fun W a b => fam_any 1 t bh bc mh dh j dc W a b htmh (by omega)
          have C4 := fun W a b => fam_any 2 t bh bc mh dh j dc W a b htmh (by omega)
          have C5 := fun W a b => neighbors_any g ah ac nh ch j cc W a b hgnh (by omega)
          have C6 := fun W a b => neighbors_any t bh bc mh dh j dc W a b htmh (by omega)
          have hn5 : nbOut g = nbL g := by unfold nbOut; rw [if_pos heg]
          have hn6 : nbOut t = nbL t := by unfold nbOut; rw [if_pos het]
          simp only [hfg 1 (by omega)] at C1
          simp only [hfg 2 (by omega)] at C2
          simp only [hft 1 (by omega)] at C3
          simp only [hft 2 (by omega)] at C4
          simp only [hn5, heg] at C5
          simp only [hn6, het] at C6
          have hok1 : ∀ l ∈ famL g 1, okL j l := fun l hl => by rw [← hng]; exact fam_ok hl
          have hok2 : ∀ l ∈ famL g 2, okL j l := fun l hl => by rw [← hng]; exact fam_ok hl
          have him1 : (famL g 1).map (imgV (tabT w h g t j j)) = famL t 2 := by rw [img_rows hok1]; exact turn_rows HT.out
          have him2 : (famL g 2).map (imgV (tabT w h g t j j)) = famL t 1 := by rw [img_rows hok2]; exact turn_cols HT.out
          have hf1 := fam_few (HT.out.gv).1.len 1
          have hf2 := fam_few (HT.out.gv).1.len 2
          obtain ⟨L1, hL1⟩ : ∃ L, famL g 1 = L := ⟨_, rfl⟩
          obtain ⟨L2, hL2⟩ : ∃ L, famL g 2 = L := ⟨_, rfl⟩
          obtain ⟨L3, hL3⟩ : ∃ L, famL t 1 = L := ⟨_, rfl⟩
          obtain ⟨L4, hL4⟩ : ∃ L, famL t 2 = L := ⟨_, rfl⟩
          rw [hL1] at hok1 him1 hf1
          rw [hL2] at hok2 him2 hf2
          rw [hL4] at him1
          rw [hL3] at him2
          simp only [hL1] at C1
          simp only [hL2] at C2
          simp only [hL3] at C3
          simp only [hL4] at C4
          have HNG := Lib.hid hng
          have HNT := Lib.hid hnt
          have H1 := Lib.hid C1
          have H2 := Lib.hid C2
          have H3 := Lib.hid C3
          have H4 := Lib.hid C4
          have H5 := Lib.hid C5
          have H6 := Lib.hid C6
          have HO1 := Lib.hid hok1
          have HO2 := Lib.hid hok2
          have HI1 := Lib.hid him1
          have HI2 := Lib.hid him2
          have HF1 := Lib.hid hf1
          have HF2 := Lib.hid hf2
          have g1 := I1.below hBj
          have g2 := I2.below hBj
          have t1' := J1.below hBj
          have t2' := J2.below hBj
          have hB8 := hB2.on hBj
          have hty := HX1.out
          clear C1 C2 C3 C4 C5 C6 hok1 hok2 him1 him2 hf1 hf2 hL1 hL2 hL3 hL4 heg het hng hnt hfg hft hn5 hn6
          go_wp2_with fail
          refine (H1.out _ g1 g2).mono ?_
          rintro e w6 ⟨vw6, rfl, O1, hA⟩
          replace g1 := g1.below hA
          replace g2 := g2.below hA
          replace t1' := t1'.below hA
          replace t2' := t2'.below hA
          replace hT := hT.below hA
          replace hX3 := hX3.below hA
          replace hgB1 := hgB1.below hA
          replace hty := hty.below hA
          replace hB8 := hB8.on hA
          
          clear d0 d1 d2 d3 d4 hgl y0 y1 y2 y3 y4 hyl hA
          obtain ⟨d0, d1, d2, d3, d4⟩ := hgB1.g5
          have hgl := hgB1.lt
          obtain ⟨y0, y1, y2, y3, y4⟩ := hty.g5
          have hyl := hty.lt
          go_wp2_with fail
          refine (H2.out _ g1 g2).mono ?_
          rintro e w7 ⟨vw7, rfl, O2, hA⟩
          replace g1 := g1.below hA
          replace g2 := g2.below hA
          replace t1' := t1'.below hA
          replace t2' := t2'.below hA
          replace hT := hT.below hA
          replace hX3 := hX3.below hA
          replace hgB1 := hgB1.below hA
          replace hty := hty.below hA
          replace hB8 := hB8.on hA
          replace O1 := O1.below hA
          clear d0 d1 d2 d3 d4 hgl y0 y1 y2 y3 y4 hyl hA
          obtain ⟨d0, d1, d2, d3, d4⟩ := hgB1.g5
          have hgl := hgB1.lt
          obtain ⟨y0, y1, y2, y3, y4⟩ := hty.g5
          have hyl := hty.lt
          go_wp2_with fail
          refine (H3.out _ t1' t2').mono ?_
          rintro e w8 ⟨vw8, rfl, O3, hA⟩
          replace g1 := g1.below hA
          replace g2 := g2.below hA
          replace t1' := t1'.below hA
          replace t2' := t2'.below hA
          replace hT := hT.below hA
          replace hX3 := hX3.below hA
          replace hgB1 := hgB1.below hA
          replace hty := hty.below hA
          replace hB8 := hB8.on hA
          replace O1 := O1.below hA; replace O2 := O2.below hA
          clear d0 d1 d2 d3 d4 hgl y0 y1 y2 y3 y4 hyl hA
          obtain ⟨d0, d1, d2, d3, d4⟩ := hgB1.g5
          have hgl := hgB1.lt
          obtain ⟨y0, y1, y2, y3, y4⟩ := hty.g5
          have hyl := hty.lt
          go_wp2_with fail
          refine (H4.out _ t1' t2').mono ?_
          rintro e w9 ⟨vw9, rfl, O4, hA⟩
          replace g1 := g1.below hA
          replace g2 := g2.below hA
          replace t1' := t1'.below hA
          replace t2' := t2'.below hA
          replace hT := hT.below hA
          replace hX3 := hX3.below hA
          replace hgB1 := hgB1.below hA
          replace hty := hty.below hA
          replace hB8 := hB8.on hA
          replace O1 := O1.below hA; replace O2 := O2.below hA; replace O3 := O3.below hA
          clear d0 d1 d2 d3 d4 hgl y0 y1 y2 y3 y4 hyl hA
          obtain ⟨d0, d1, d2, d3, d4⟩ := hgB1.g5
          have hgl := hgB1.lt
          obtain ⟨y0, y1, y2, y3, y4⟩ := hty.g5
          have hyl := hty.lt
          go_wp2_with fail
          refine (H5.out _ g1 g2).mono ?_
          rintro e w10 ⟨vw10, rfl, O5, hA⟩
          replace g1 := g1.below hA
          replace g2 := g2.below hA
          replace t1' := t1'.below hA
          replace t2' := t2'.below hA
          replace hT := hT.below hA
          replace hX3 := hX3.below hA
          replace hgB1 := hgB1.below hA
          replace hty := hty.below hA
          replace hB8 := hB8.on hA
          replace O1 := O1.below hA; replace O2 := O2.below hA; replace O3 := O3.below hA; replace O4 := O4.below hA
          clear d0 d1 d2 d3 d4 hgl y0 y1 y2 y3 y4 hyl hA
          obtain ⟨d0, d1, d2, d3, d4⟩ := hgB1.g5
          have hgl := hgB1.lt
          obtain ⟨y0, y1, y2, y3, y4⟩ := hty.g5
          have hyl := hty.lt
          go_wp2_with fail
          refine (H6.out _ t1' t2').mono ?_
          rintro e w11 ⟨v11, rfl, O6, hA⟩
          replace hT := hT.below hA
          replace hX3 := hX3.below hA
          replace hB8 := hB8.on hA
          replace O1 := O1.below hA
          replace O2 := O2.below hA
          replace O3 := O3.below hA
          replace O4 := O4.below hA
          replace O5 := O5.below hA
          obtain ⟨a1, c1, rfl, R1⟩ := O1.rows
          obtain ⟨a2, c2, rfl, R2⟩ := O2.rows
          obtain ⟨a3, c3, rfl, R3⟩ := O3.rows
          obtain ⟨a4, c4, rfl, R4⟩ := O4.rows
          obtain ⟨a5, c5, q5, R5⟩ := O5.rows
          obtain ⟨a6, c6, q6, R6⟩ := O6.rows
          rw [nbL_len, HNG.out] at q5 R5
          rw [nbL_len, HNT.out] at q6 R6
          subst q5 q6
          have s3 : w11.cell? ⟨tB + 1 + 1, 0, none⟩ = some (Value.slice (some ⟨tB + 1, 0, none⟩) j j) := hX3.cell 0
          have hsl := hX3.lt
          clear hA d0 d1 d2 d3 d4 hgl y0 y1 y2 y3 y4 hyl hty hgB1 g1 g2 t1' t2' O1 O2 O3 O4 O5 O6
          have hc5 := R5.cap
          have hm5 := R5.mx
          have hc6 := R6.cap
          have hm6 := R6.mx
          unfold maxLen at hm5 hm6
          go_wp2_with fail
          go_loopw [6, 214] (fun v c wr => ∃ a : Nat, a ≤ j ∧ v = .bool false ∧ c = .int .i64 a ∧ ∃ q, wr = w11.drewN q) (fun _ c _ => j - (intOf c).toNat)
          case atStart => exact ⟨0, by omega, rfl, rfl, 0, rfl⟩
          case round =>
            obtain ⟨a, ha, rfl, rfl, qa, rfl⟩ := hrel
            by_cases hla : a < j
            · obtain ⟨b5, o5, ha5, hb5⟩ := R5.at' (by omega)
              obtain ⟨ax, nx, cx, e5, hIx⟩ := R5.row b5 o5 ha5 a hla
              rw [nbL_get g (by rw [HNG.out]; exact hla), HNG.out] at hIx
              subst ha5
              obtain ⟨ka, hka, eka, _⟩ := HT.out.at_ (c := a) (by rw [HNG.out]; exact hla)
              rw [HNG.out] at hka
              obtain ⟨b6, o6, ha6, hb6⟩ := R6.at' (by omega)
              obtain ⟨ay, ny, cy, e6, hIy⟩ := R6.row b6 o6 ha6 ka hka
              rw [nbL_get t (by rw [HNT.out]; exact hka), HNT.out] at hIy
              subst ha6
              have x1 := hT.cell (tB + 1) 0 rfl a hla
              rw [tabT_get w h g t hla, eka, Nat.zero_add] at x1
              have HX1' := Lib.hid x1
              have EKA := Lib.hid eka
              clear eka
              go_wp2_with fail
              go_loopw [6, 219] (fun v c wr => ∃ b : Nat, b ≤ j ∧ v = .bool false ∧ c = .int .i64 b ∧ ∃ q, wr = w11.drewN q) (fun _ c _ => j - (intOf c).toNat)
              case atStart => exact ⟨0, by omega, rfl, rfl, qa, rfl⟩
              case round =>
                obtain ⟨b, hb, rfl, rfl, qb, rfl⟩ := hrel
                by_cases hlb : b < j
                · obtain ⟨kb, hkb, ekb, _⟩ := HT.out.at_ (c := b) (by rw [HNG.out]; exact hlb)
                  rw [HNG.out] at hkb
                  have x2 := hT.cell (tB + 1) 0 rfl b hlb
                  rw [tabT_get w h g t hlb, ekb, Nat.zero_add] at x2
                  have hbe := turn_beside HT.out (by rw [HNG.out]; exact hla) (by rw [HNG.out]; exact hlb) EKA.out ekb
                  have hin1 : inL (nbRow g a j) b = besideB g a b := by
                    rw [← touch_beside HVG.out.dims.1]
                    have := in_touch HVG.out (a := a) (b := b) (by rw [HNG.out]; exact hlb)
                    rw [HNG.out] at this; exact this
                  have hin2 : inL (nbRow t ka j) kb = besideB g a b := by
                    rw [← hbe, ← touch_beside HVT.out.dims.1]
                    have := in_touch HVT.out (a := ka) (b := kb) (by rw [HNT.out]; exact hkb)
                    rw [HNT.out] at this; exact this
                  obtain ⟨bb, hbb⟩ : ∃ bb, besideB g a b = bb := ⟨_, rfl⟩
                  rw [hbb] at hin1 hin2
                  have HQ : Hid (∀ (W' : World) (z : Option Addr) (n c : Nat) (x : Int), ((z = ax ∧ n = nx ∧ c = cx ∧ x = b) ∨ (z = ay ∧ n = ny ∧ c = cy ∧ x = kb)) → (∃ q, W' = w11.drewN q) → Calls Try.prog 52 #[.slice z n c, .int .i64 x] W' fun e w' => e = .returned (.bool bb) ∧ ∃ q, w' = W'.drewN q) := Lib.hid fun W' z n c x hz hW => by
                    obtain ⟨q, rfl⟩ := hW
                    rcases hz with ⟨rfl, rfl, rfl, rfl⟩ | ⟨rfl, rfl, rfl, rfl⟩
                    · rw [← hin1]
                      exact (lawin_any _ _ _ (nbRow g a j) _ _ (hIx.drewN q)).mono fun e w' ⟨h1, h2⟩ => ⟨h1, 0, h2⟩
                    · rw [← hin2]
                      exact (lawin_any _ _ _ (nbRow t ka j) _ _ (hIy.drewN q)).mono fun e w' ⟨h1, h2⟩ => ⟨h1, 0, h2⟩
                  have tb : (bb != bb) = false := by simp
                  have i1 : (0 : Int) ≤ (a : Int) := by omega
                  have i2 : (a : Int) < (j : Int) := by omega
                  have i3 : (0 : Int) ≤ (b : Int) := by omega
                  have i4 : (b : Int) < (j : Int) := by omega
                  have i5 : (0 : Int) ≤ (ka : Int) := by omega
                  have i6 : (ka : Int) < (j : Int) := by omega
                  clear hin1 hin2 hbb hbe ekb
                  go_wp2_with fail
                  go_quiet ((go_at_call 52; first | exact quiet_ofY (HQ.out _ _ _ _ _ (by first | exact .inl ⟨rfl, rfl, rfl, rfl⟩ | exact .inr ⟨rfl, rfl, rfl, rfl⟩) (by first | exact ⟨_, rfl⟩ | exact ⟨_, World.drewN_drewN⟩)) | exact quiet_ofX (HQ.out _ _ _ _ _ (by first | exact .inl ⟨rfl, rfl, rfl, rfl⟩ | exact .inr ⟨rfl, rfl, rfl, rfl⟩) (by first | exact ⟨_, rfl⟩ | exact ⟨_, World.drewN_drewN⟩ | exact ⟨0, rfl⟩)) (by first | exact ⟨_, rfl⟩ | exact ⟨_, World.drewN_drewN.symm⟩ | exact ⟨0, rfl⟩)))
                  go_wp2_with fail
                  go_roundw
                  case rel => exact ⟨b + 1, by omega, rfl, by go_num, by first | exact ⟨_, rfl⟩ | exact ⟨_, World.drewN_drewN⟩⟩
                  case measure => simp [intOf]; omega
                · obtain rfl : b = j := by omega
                  go_wp2_with fail
                  go_roundw
                  case rel => exact ⟨a + 1, by omega, rfl, by go_num, qb, rfl⟩
                  case measure => simp [intOf]; omega
            · obtain rfl : a = j := by omega
              have hcI1 := imageT_any a1 L1.length c1 (tB + 1 + 1) L1 (some ⟨tB + 1, 0, none⟩) a a (tabT w h g t a a) (w11.drewN qa) (R1.drewN qa) s3 (hT.drewN qa) HO1.out hn256 HF1.out
              rw [HI1.out] at hcI1
              have HCI1 := Lib.hid hcI1
              clear hcI1
              go_wp2_with fail
              refine HCI1.out.mono ?_
              rintro e w12 ⟨v12, rfl, O12, hB12⟩
              have hA12 : Below w11.heap.size w11 w12 := (Below.drewN0 w11 qa).on hB12
              obtain ⟨a12, c12, rfl, R12⟩ := O12.rows
              go_wp2_with fail
              refine (sameLists_lit R12 (R4.below hA12) rfl).mono ?_
              rintro e w13 ⟨rfl, q13, rfl⟩
              have hA13 := below_drewN hA12 q13
              have hcI2 := imageT_any a2 L2.length c2 (tB + 1 + 1) L2 (some ⟨tB + 1, 0, none⟩) a a (tabT w h g t a a) (w12.drewN q13) (R2.below hA13) ((hX3.below hA13).cell 0) (hT.below hA13) HO2.out hn256 HF2.out
              rw [HI2.out] at hcI2
              have HCI2 := Lib.hid hcI2
              clear hcI2
              go_wp2_with fail
              refine HCI2.out.mono ?_
              rintro e w14 ⟨v14, rfl, O14, hB14⟩
              have hA14 := hA13.on hB14
              obtain ⟨a14, c14, rfl, R14⟩ := O14.rows
              go_wp2_with fail
              refine (sameLists_lit R14 (R3.below hA14) rfl).mono ?_
              rintro e w15 ⟨rfl, q15, rfl⟩
              go_wp2_with fail
              go_ret
              exact ⟨rfl, below_drewN (hB8.on hA14) q15⟩

set_option maxRecDepth 100000 in
set_option maxHeartbeats 2000000 in
theorem tr13_lifted (os : Os) (started : os.Started) (H : Type) (enc : TypeId × Value → H) :
    ReturnsInHanded {} Try.checked os 16 .any (Rows.gridsTransposedSpec.pre6 enc Try.prog Try.f16 Rows.gridsTransposedRow.domain false) (Rows.gridsTransposedSpec.post enc Try.prog Try.f16 false true false false) := by
  refine returnsInHanded_of_change (C := Try.checked) row_own started (by kernel_rfl) Try.func16
    (ChangeSpec.witness6 (enc := enc) (C := Try.checked) false ⟨#[], #[.int .i64 0, .int .i64 0, .slice none 0 0], []⟩ 8 (by kernel_rfl) (by kernel_rfl) (by kernel_rfl) (by kernel_rfl)) ?_
  intro W base args ds gs before hval0 hW _ _
  have hval : ∀ (j : Nat) t v, Try.f16.params[j]? = some t → args[j]? = some v → Value.okWide Try.prog W .any base t v := hval0
  have hW' := hW
  obtain ⟨p, q, hA0, hV, rfl, _, _⟩ := hW
  have hA : DataW.TrodAll enc Try.prog W 0 (fun _ => true) true Try.f16.params.toList args.toList ds p := hA0
  rw [Try.params16] at hA hval
  obtain ⟨v0, v1, v2, d0, d1, d2, p0, p1, p2, rfl, rfl, rfl, h0, h1, h2⟩ := trodAll_three hA
  obtain ⟨rfl, rfl⟩ := trodVars_none hV
  obtain ⟨w, rfl, rfl, rfl, _⟩ := open_int Try.underlying3 (hval 0 3 v0 rfl rfl) h0
  obtain ⟨h, rfl, rfl, rfl, _⟩ := open_int Try.underlying3 (hval 1 3 v1 rfl rfl) h1
  obtain ⟨la, ln, lc, l, rfl, hl, _⟩ := open_L (hval 2 22 v2 rfl rfl) h2
  refine (law13Tr_any w h la ln lc l W hl).mono fun e W' ⟨he, hb⟩ => ?_
  subst he
  exact ⟨_, rfl, law_post hW' rfl rfl (by kernel_rfl) rfl hb⟩
set_option maxHeartbeats 2000000 in
theorem tr13_closed : joinedFacts Try.prog 16 Try.f16 Rows.gridsTransposedSpec Rows.gridsTransposedRow = true := by
  unfold joinedFacts
  refine bt (bt (bt (bt (bt (bt (bt (bt (bt (bt (bt (bt (bt (bt (bt (bt (bt (bt (bt (bt (bt (bt (bt (bt (bt (bt (bt (bt (bt (bt (bt ?a0 ?a1) ?a2) ?a3) ?a4) ?a5) ?a6) ?a7) ?a8) ?a9) ?a10) ?a11) ?a12) ?a13) ?a14) ?a15) ?a16) ?a17) ?a18) ?a19) ?a20) ?a21) ?a22) ?a23) ?a24) ?a25) ?a26) ?a27) ?a28) ?a29) ?a30) ?a31
  case a25 => exact prog_enter
  case a26 => exact prog_lifts
  case a27 => exact prog_make
  all_goals as_aux_lemma => kernel_rfl
theorem gridsTransposed_holds : Rows.GridsTransposedSaid :=
  OpenClaim.holds_of_wide 16 Try.f16 rfl rfl rfl rfl rfl rfl rfl ⟨rfl, rfl, rfl, rfl, rfl⟩ rfl rfl rfl rfl rfl (by kernel_rfl) Try.func16 tr13_closed
    (of_decide_eq_true (by kernel_rfl)) (by unfold Func.isWrapper; rw [if_neg (of_decide_eq_false (by kernel_rfl))]; exact ⟨rfl, rfl⟩)
    (fun os started H enc _ => tr13_lifted os started H enc)
#print axioms gridsTransposed_holds
end Go.Proofs.Ytjiacdihfbbfjaa

