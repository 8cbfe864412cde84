/- Contracts of ref13.line, lines. -/
import Derived.Deep.RegionHeld3
import Derived.Test.YtjiacdihfbbfjaaFams
import Derived.WalkKit
import Derived.WalkSpells
import Derived.WalkLawsBesides
import Derived.Deep.LoopGhost
import Derived.Deep.QuietTactic
import Derived.BigQuiet
import Derived.StillTailTactics
import Derived.Lib.Hide
import Derived.Outline
import Derived.Lib.QuietBelow
import Derived.Test.YtjiacdihfbbfjaaRefX
namespace Go.Proofs.Ytjiacdihfbbfjaa
open Go.RowKit

/-- The families that are lines. -/
def LineFam (g : Grid) (f : Int) : Prop := f = 1 ∨ f = 2 ∨ (f = 3 ∧ g.shape = 2)
set_option maxRecDepth 20000 in
set_option maxHeartbeats 2000000 in
theorem line13_any (g : Grid) (f : Int) (ah ac : Option Addr) (nh ch nc cc k : Nat) (W : World) (h : CellOk g W ac nc cc k) (hf : LineFam g f) :
    Calls Try.prog 109 #[.agg #[.int .i64 g.shape, .int .i64 g.w, .int .i64 g.h, .slice ah nh ch, .slice ac nc cc], .int .i64 f, .int .i64 k] W fun e w' => e = .returned (.int .i64 (lineNo g f k)) ∧ Below W.heap.size W w' := by
  have hal : Below W.heap.size W (W.alloc (.cells #[.int .i64 g.shape, .int .i64 g.w, .int .i64 g.h, .slice ah nh ch, .slice ac nc cc] 24)) := (Below.refl _ _).alloc (Nat.le_refl _) _
  have hbx := Box.new W #[.int .i64 g.shape, .int .i64 g.w, .int .i64 g.h, .slice ah nh ch, .slice ac nc cc] 24
  have hl := hbx.lt
  obtain ⟨⟨a1, a2⟩, a3, a4⟩ := h.bd
  have hk := h.below hal
  by_cases h1 : f = 1
  · subst h1
    have HR : Hid (lineNo g 1 k = rowL g k) := Lib.hid (by unfold lineNo; rw [if_pos rfl])
    rw [HR.out]
    have HC := Lib.hid (row_any g ah ac nh ch nc cc k _ hk)
    clear hf
    go_enter Try.func109, Try.ntmps109
    go_wp2_with fail
    refine HC.out.mono ?_
    rintro e w1 ⟨rfl, hB1⟩
    go_wp2_with fail
    go_ret
    exact ⟨rfl, hal.on hB1⟩
  · have t1 : (f == 1) = false := by rw [beq_eq_false_iff_ne]; exact h1
    by_cases hsq : g.shape = 1
    · have ts : (g.shape == 1) = true := by rw [hsq]; rfl
      have HR : Hid (lineNo g f k = colL g k) := Lib.hid (by unfold lineNo; rw [if_neg h1, if_pos hsq])
      rw [HR.out]
      have HC := Lib.hid (col_any g ah ac nh ch nc cc k _ hk)
      obtain ⟨d0, d1, d2, d3, d4⟩ := hbx.g5
      clear hf h1 hsq
      go_enter Try.func109, Try.ntmps109
      go_wp2_with fail
      refine HC.out.mono ?_
      rintro e w1 ⟨rfl, hB1⟩
      go_wp2_with fail
      go_ret
      exact ⟨rfl, hal.on hB1⟩
    · have ts : (g.shape == 1) = false := by rw [beq_eq_false_iff_ne]; exact hsq
      obtain ⟨d0, d1, d2, d3, d4⟩ := hbx.g5
      by_cases h2 : f = 2
      · subst h2
        have HR : Hid (lineNo g 2 k = axisL g k) := Lib.hid (by unfold lineNo; rw [if_neg h1, if_neg hsq, if_pos rfl])
        rw [HR.out]
        have HC := Lib.hid (axis_any g ah ac nh ch nc cc k _ hk)
        clear hf h1 hsq
        go_enter Try.func109, Try.ntmps109
        go_wp2_with fail
        refine HC.out.mono ?_
        rintro e w1 ⟨rfl, hB1⟩
        go_wp2_with fail
        go_ret
        exact ⟨rfl, hal.on hB1⟩
      · have t2 : (f == 2) = false := by rw [beq_eq_false_iff_ne]; exact h2
        have HR : Hid (lineNo g f k = axisL g k + rowL g k) := Lib.hid (by unfold lineNo; rw [if_neg h1, if_neg hsq, if_neg h2])
        rw [HR.out]
        have qa : -200 ≤ axisL g k ∧ axisL g k ≤ 200 := by unfold axisL; omega
        obtain ⟨w1, hw1⟩ : ∃ w1, W.alloc (.cells #[.int .i64 g.shape, .int .i64 g.w, .int .i64 g.h, .slice ah nh ch, .slice ac nc cc] 24) = w1 := ⟨_, rfl⟩
        rw [hw1] at hal hbx hl d0 d1 d2 d3 d4 hk
        have HW1 := Lib.hid hw1
        have HCr : Hid (∀ w, Below w1.heap.size w1 w → Calls Try.prog 102 #[.agg #[.int .i64 g.shape, .int .i64 g.w, .int .i64 g.h, .slice ah nh ch, .slice ac nc cc], .int .i64 k] w fun e w' => e = .returned (.int .i64 (rowL g k)) ∧ Below w.heap.size w w') := Lib.hid fun w hb' => row_any g ah ac nh ch nc cc _ w (hk.below hb')
        have HCa : Hid (∀ w, Below w1.heap.size w1 w → Calls Try.prog 103 #[.agg #[.int .i64 g.shape, .int .i64 g.w, .int .i64 g.h, .slice ah nh ch, .slice ac nc cc], .int .i64 k] w fun e w' => e = .returned (.int .i64 (axisL g k)) ∧ Below w.heap.size w w') := Lib.hid fun w hb' => axis_any g ah ac nh ch nc cc _ w (hk.below hb')
        obtain ⟨X, hX⟩ : ∃ X, axisL g k = X := ⟨_, rfl⟩
        obtain ⟨Y, hY⟩ : ∃ Y, rowL g k = Y := ⟨_, rfl⟩
        rw [hX] at HCa qa ⊢
        rw [hY] at HCr a3 a4 ⊢
        obtain ⟨q1, q2⟩ := qa
        clear hw1 hf h1 hsq h2 hX hY HR a1 a2
        go_enter Try.func109, Try.ntmps109
        go_wp2_with fail
        rw [HW1.out]
        go_region_held3 (fun w' => w'.cell? ⟨W.heap.size, 0, none⟩ = some (.int .i64 g.shape) ∧ w'.cell? ⟨W.heap.size, 1, none⟩ = some (.int .i64 g.w) ∧ w'.cell? ⟨W.heap.size, 2, none⟩ = some (.int .i64 g.h) ∧ w'.cell? ⟨W.heap.size, 3, none⟩ = some (.slice ah nh ch) ∧ w'.cell? ⟨W.heap.size, 4, none⟩ = some (.slice ac nc cc) ∧ Below w1.heap.size w1 w')
          (first | exact ⟨d0, d1, d2, d3, d4, (Below.refl _ _).drew⟩ | exact g5_keep (by assumption) (by assumption) | exact g5_keep (by assumption) (Below.refl _ _).drew)
          (first | (go_at_call 102; refine (HCr.out _ (by first | (go_split_ands; assumption) | exact (Below.refl _ _).drew)).mono ?_; rintro e w' ⟨rfl, hb⟩) | (go_at_call 103; refine (HCa.out _ (by first | (go_split_ands; assumption) | exact (Below.refl _ _).drew)).mono ?_; rintro e w' ⟨rfl, hb⟩))
        go_wp2_with fail
        all_goals
          go_split_ands
          go_ret
          exact ⟨ret_int (by first | exact IntWalk.i64_in _ (by omega) | (rw [IntWalk.i64_in _ (by omega)]; omega)), hal.on (by assumption)⟩

def linesTo (F : Nat → Option Int) (k i : Nat) : List (List Int) := (((List.range i).map fun (i : Nat) => (i : Int) - 16).filter fun n => grpL F k n != []).map (grpL F k)
theorem linesTo_all (F : Nat → Option Int) (k : Nat) : linesTo F k 49 = linesL F k := rfl
theorem linesTo_succ (F : Nat → Option Int) (k i : Nat) : linesTo F k (i + 1) = linesTo F k i ++ (if grpL F k ((i : Int) - 16) = [] then [] else [grpL F k ((i : Int) - 16)]) := by
  unfold linesTo
  rw [List.range_succ, List.map_append, List.filter_append, List.map_append]
  congr 1
  by_cases h : grpL F k ((i : Int) - 16) = []
  · simp [h]
  · simp [h]
theorem linesTo_len (F : Nat → Option Int) (k i : Nat) : (linesTo F k i).length ≤ i := by
  unfold linesTo
  rw [List.length_map]
  exact Nat.le_trans (List.length_filter_le _ _) (by simp)

set_option maxRecDepth 20000 in
set_option maxHeartbeats 4000000 in
theorem reflines_any (g : Grid) (f : Int) (ah ac : Option Addr) (nh ch nc cc : Nat) (W : World) (h2 : Ints W ac nc cc g.cells) (hv : Valid g) (hf : LineFam g f) :
    Calls Try.prog 82 #[.agg #[.int .i64 g.shape, .int .i64 g.w, .int .i64 g.h, .slice ah nh ch, .slice ac nc cc], .int .i64 f] W fun e w' => ∃ v, e = .returned v ∧ OwnRows w' W.heap.size 22 v (refLines g f) ∧ Below W.heap.size W w' := by
  have hal : Below W.heap.size W (W.alloc (.cells #[.int .i64 g.shape, .int .i64 g.w, .int .i64 g.h, .slice ah nh ch, .slice ac nc cc] 24)) := (Below.refl _ _).alloc (Nat.le_refl _) _
  have hbx := Box.new W #[.int .i64 g.shape, .int .i64 g.w, .int .i64 g.h, .slice ah nh ch, .slice ac nc cc] 24
  have hl := hbx.lt
  have h256 := hv.len
  rw [h2.len] at h256
  have HL := Lib.hid h2.len
  have HV := Lib.hid hv
  have HF := Lib.hid hf
  have HR : Hid (refLines g f = linesTo (fun c => some (lineNo g f c)) nc 49) := Lib.hid (by unfold refLines; rw [← h2.len]; rfl)
  obtain ⟨F, hF⟩ : ∃ F : Nat → Option Int, (fun c => some (lineNo g f c)) = F := ⟨_, rfl⟩
  rw [hF] at HR
  have HFE : Hid (∀ c, F c = some (lineNo g f c)) := Lib.hid (by intro c; rw [← hF])
  obtain ⟨w1, hw1⟩ : ∃ w1, W.alloc (.cells #[.int .i64 g.shape, .int .i64 g.w, .int .i64 g.h, .slice ah nh ch, .slice ac nc cc] 24) = w1 := ⟨_, rfl⟩
  rw [hw1] at hal hbx hl
  have HW1 := Lib.hid hw1
  have hJ := h2.below hal
  have hws := hal.size
  clear hv hf hF hw1
  obtain ⟨i3, hi3, hz30, hz31, hz32⟩ := info_parts info_int
  obtain ⟨i22, hi22, hz220, hz221, hz222⟩ := info_parts info_ints
  go_enter Try.func82, Try.ntmps82
  go_wp2_with fail
  rw [HW1.out]
  go_loopw [5, 6] (fun v c wr => ∃ i : Nat, i ≤ 49 ∧ c = .int .i64 ((i : Int) - 16) ∧ OwnRows wr w1.heap.size 22 v (linesTo F nc i) ∧ Below w1.heap.size w1 wr) (fun _ c _ => (49 - (intOf c + 16)).toNat)
  case atStart => exact ⟨0, by omega, by go_num, OwnRows.nil _ _ _, Below.refl _ _⟩
  case round =>
    obtain ⟨i, hi, rfl, hO, hBo⟩ := hrel
    obtain ⟨wo, rfl⟩ : ∃ wo, wo = wr := ⟨_, rfl⟩
    have hso := hBo.size
    by_cases hlt : i < 49
    · have ti : decide ((i : Int) - 16 ≤ 32) = true := by simp; omega
      have HLS := Lib.hid (linesTo_succ F nc i)
      have HLN := Lib.hid (linesTo_len F nc i)
      obtain ⟨n, hn⟩ : ∃ n : Int, (i : Int) - 16 = n := ⟨_, rfl⟩
      have hnb : -16 ≤ n ∧ n ≤ 32 := by omega
      rw [hn] at HLS ti ⊢
      have HNI := Lib.hid hn
      have tn : decide (n ≤ 32) = true := ti
      have hxo := hbx.below hBo
      have hJo := hJ.below hBo
      clear hn ti
      go_wp2_with fail
      go_loopw [7, 8] (fun v c wr => ∃ b : Nat, b ≤ nc ∧ c = .int .i64 b ∧ OwnInts wr wo.heap.size 3 v (grpL F b n) ∧ Below wo.heap.size wo wr) (fun _ c _ => nc - (intOf c).toNat)
      case atStart => exact ⟨0, by omega, rfl, OwnInts.nil _ _ _, Below.refl _ _⟩
      case round =>
        obtain ⟨b, hb, rfl, hC, hBi⟩ := hrel
        obtain ⟨wi, rfl⟩ : ∃ wi, wi = wr := ⟨_, rfl⟩
        have hsi := hBi.size
        obtain ⟨d0, d1, d2, d3, d4⟩ := (hxo.below hBi).g5
        have hxl := (hxo.below hBi).lt
        by_cases hlt2 : b < nc
        · have hok : CellOk g wi ac nc cc b := ⟨hJo.below hBi, ⟨HV.out.dims.2.1, HV.out.dims.2.2.1⟩, fun x hx => by have := HV.out.mem hx; have := HV.out.area; omega, hlt2⟩
          have hcall := line13_any g f ah ac nh ch nc cc b wi hok HF.out
          have hsucc := grpL_succ F b n
          rw [HFE.out] at hsucc
          obtain ⟨L, hL⟩ : ∃ L, lineNo g f b = L := ⟨_, rfl⟩
          rw [hL] at hcall hsucc
          have HCL := Lib.hid hcall
          clear hcall hok hL
          have hgl := grpL_len F b n
          by_cases he : L = n
          · subst he
            have HSU : Hid (grpL F (b + 1) L = grpL F b L ++ [(b : Int)]) := Lib.hid (by rw [hsucc, if_pos rfl])
            clear hsucc
            go_wp2_with fail
            refine HCL.out.mono ?_
            rintro e w5 ⟨rfl, hB5⟩
            have hO5 := hC.below hB5
            have hR5 : w5.ownsRow wo.heap.size 3 1 _ (grpL F b L).length ((grpL F b L).map (Value.int .i64)) := hO5
            obtain ⟨M, hM⟩ : ∃ M, (grpL F b L).length = M := ⟨_, rfl⟩
            rw [hM] at hR5 hgl
            have HM := Lib.hid hM
            have hl5 := hR5.lt
            have hs5 := hB5.size
            clear hM
            go_wp2_with (at_builtin; refine wpList_append_own2 _ rfl _ _ 22 rfl wo.heap.size 3 i3 (.int .i64 0) 1 8 Try.underlying22 hi3 hz30 hz31 hz32 rfl (by decide) _ _ _ (hR5.alloc _) rfl ⟨_, 0, none⟩ 1 1 [.int .i64 (b : Int)] rfl rfl (cell_one_new _ _ _) (by simp [Value.oneCell']) (by unfold maxLen; omega) (by omega) (by first | omega | (simp; omega)) ?_; intro v' w1 hown' hgrow hfr)
            go_roundw
            case rel =>
              refine ⟨b + 1, by omega, by go_num, ?_, ((hBi.on hB5).alloc (by omega) _).grown hgrow (by simp; omega) (fun q e => (hl5 q e).1)⟩
              rw [HSU.out]
              exact OwnInts.snoc (by rw [HM.out]; exact hown')
            case measure => simp [intOf]; omega
          · have HSU : Hid (grpL F (b + 1) n = grpL F b n) := Lib.hid (by rw [hsucc, if_neg (fun e => he (Option.some.inj e)), List.append_nil])
            have tl : (L == n) = false := by rw [beq_eq_false_iff_ne]; exact he
            clear hsucc he
            go_wp2_with fail
            refine HCL.out.mono ?_
            rintro e w5 ⟨rfl, hB5⟩
            go_wp2_with fail
            go_roundw
            case rel => exact ⟨b + 1, by omega, by go_num, by rw [HSU.out]; exact hC.below hB5, hBi.on hB5⟩
            case measure => simp [intOf]; omega
        · obtain rfl : b = nc := by omega
          obtain ⟨us, hus, hE⟩ := hO
          have hus2 := ownsRow_below' hus hBi
          have hfr1 : 0 < (grpL F b n).length → _ ≠ _ := fun h => fresh_ne hC hus (by omega) h
          have hO2 : OwnRows wi w1.heap.size 22 _ (linesTo F b i) := ⟨us, hus2, hE.mono fun _ _ hu => hu.below hBi⟩
          obtain ⟨av, cv, rfl, hIv⟩ := hC.ints
          obtain ⟨M, hM⟩ : ∃ M, (grpL F b n).length = M := ⟨_, rfl⟩
          obtain ⟨K, hK⟩ : ∃ K, (linesTo F b i).length = K := ⟨_, rfl⟩
          have hKl : K ≤ 49 := by rw [← hK]; have := HLN.out; omega
          rw [hM] at hIv hfr1 ⊢
          rw [hK] at hus hus2
          have HFR := Lib.hid hfr1
          have HM := Lib.hid hM
          have HK := Lib.hid hK
          clear hM hK hfr1
          by_cases hz : M = 0
          · have hne : grpL F b n = [] := List.eq_nil_of_length_eq_zero (by rw [HM.out]; exact hz)
            have HNE := Lib.hid hne
            have tz : decide (0 < (M : Int)) = false := by simp; omega
            have tz' : decide (0 < M) = false := by simp; omega
            clear hz hne
            go_wp2_with fail
            go_roundw
            case rel => exact ⟨i + 1, by omega, by rw [← HNI.out]; go_num, by rw [HLS.out, HNE.out, if_pos rfl, List.append_nil]; exact hO2, hBo.on hBi⟩
            case measure => simp [intOf]; omega
          · have hne : grpL F b n ≠ [] := fun e => hz (by rw [← HM.out, e]; rfl)
            have HNE := Lib.hid hne
            have tz : decide (0 < (M : Int)) = true := by simp; omega
            have tz' : decide (0 < M) = true := by simp; omega
            clear hz hne hO2
            go_wp2_with (at_builtin; refine wpList_append_own2 _ rfl _ _ 28 rfl w1.heap.size 22 i22 (.slice none 0 0) 1 24 Try.underlying28 hi22 hz220 hz221 hz222 rfl (by decide) _ _ _ (hus2.alloc _) rfl ⟨_, 0, none⟩ 1 1 [(.slice av M cv)] rfl rfl (cell_one_new _ _ _) (by simp [Value.oneCell']) (by unfold maxLen; omega) (by omega) (by first | omega | (simp; omega)) ?_; intro v' w1 hown' hgrow hfr)
            go_roundw
            case rel =>
              refine ⟨i + 1, by omega, by rw [← HNI.out]; go_num, ?_, ((hBo.on hBi).alloc (by omega) _).grown hgrow (by simp; omega) (fun q e => (hus2.lt q e).1)⟩
              rw [HLS.out, if_neg HNE.out]
              exact OwnRows.push (hE.mono fun _ _ hu => (hu.below hBi).below ((Below.refl _ _).alloc (Nat.le_refl _) _)) (by rw [HK.out]; exact hown') hgrow hfr (hIv.below ((Below.refl _ _).alloc (Nat.le_refl _) _)) HFR.out
            case measure => simp [intOf]; omega
    · obtain rfl : i = 49 := by omega
      have ti : decide (((49 : Nat) : Int) - 16 ≤ 32) = false := by decide
      go_wp2_with fail
      go_ret
      refine ⟨_, rfl, ?_, hal.on hBo⟩
      rw [HR.out]
      exact hO.mono (by omega)
end Go.Proofs.Ytjiacdihfbbfjaa

/- Contract of ref13.diagonals at a square grid. -/
namespace Go.Proofs.Ytjiacdihfbbfjaa
open Go.RowKit

def selD (g : Grid) (i : Int) (c : Nat) : Bool := if i = 0 then decide (colL g c = rowL g c) else decide (colL g c = g.w - 1 - rowL g c)
def diagTo (a b : List Int) (i : Int) : List (List Int) := if i = 0 then [] else if i = 1 then onel a else two a b
theorem diagTo_one (a b : List Int) : diagTo a b 1 = diagTo a b 0 ++ (if a = [] then [] else [a]) := by unfold diagTo onel; simp
theorem diagTo_two (a b : List Int) : diagTo a b 2 = diagTo a b 1 ++ (if b = [] ∨ a = b then [] else [b]) := by unfold diagTo onel two; simp
theorem diagTo_len (a b : List Int) (i : Int) : (diagTo a b i).length ≤ 2 := by
  unfold diagTo onel two
  split
  · simp
  · split
    · split <;> simp
    · rw [List.length_append]; split <;> split <;> simp
/-- What the round of the number i adds. -/
def addD (a b : List Int) (i : Int) : List (List Int) := if i = 0 then onel a else (if b = [] ∨ a = b then [] else [b])
theorem diagTo_add (a b : List Int) {i : Int} (h : i = 0 ∨ i = 1) : diagTo a b (i + 1) = diagTo a b i ++ addD a b i := by
  rcases h with rfl | rfl
  · simpa [addD, onel] using diagTo_one a b
  · simpa [addD] using diagTo_two a b
def selOf (g : Grid) (i : Int) (k : Nat) : List Int := selL (selD g i) k
theorem addD_sel {a b : List Int} {g : Grid} {n : Nat} (ha : a = selOf g 0 n) (hb : b = selOf g 1 n) {i : Int} (h : i = 0 ∨ i = 1) {l : List Int} (hl : l = selOf g i n) :
    addD a b i = if l = [] ∨ (i = 1 ∧ a = l) then [] else [l] := by
  rcases h with rfl | rfl
  · rw [← ha] at hl; subst hl; unfold addD onel; simp
  · rw [← hb] at hl; subst hl; unfold addD; simp
set_option maxRecDepth 20000 in
set_option maxHeartbeats 4000000 in
theorem refdiag_any (g : Grid) (ah ac : Option Addr) (nh ch nc cc : Nat) (W : World) (h2 : Ints W ac nc cc g.cells) (hv : Valid g) (hs : g.shape = 1) : Calls Try.prog 83 #[.agg #[.int .i64 g.shape, .int .i64 g.w, .int .i64 g.h, .slice ah nh ch, .slice ac nc cc]] W (RetLo W (diagL g)) := by
  have hal : Below W.heap.size W (W.alloc (.cells #[.int .i64 g.shape, .int .i64 g.w, .int .i64 g.h, .slice ah nh ch, .slice ac nc cc] 24)) := (Below.refl _ _).alloc (Nat.le_refl _) _
  have hx := Box.new W #[.int .i64 g.shape, .int .i64 g.w, .int .i64 g.h, .slice ah nh ch, .slice ac nc cc] 24
  have h256 := hv.len
  have hnl := h2.len
  rw [hnl] at h256
  by_cases hw : g.w = g.h
  · have tw : (g.w == g.h) = true := by rw [hw]; simp
    have hD : diagL g = diagTo (selOf g 0 nc) (selOf g 1 nc) 2 := by
      unfold diagL diagTo
      rw [if_pos hw, hnl, main_grp hs, anti_grp hs]
      rfl
    obtain ⟨a, ha⟩ : ∃ a, selOf g 0 nc = a := ⟨_, rfl⟩
    obtain ⟨b, hb⟩ : ∃ b, selOf g 1 nc = b := ⟨_, rfl⟩
    rw [ha, hb] at hD
    rw [hD]
    have HADD : Hid (∀ i, (i = 0 ∨ i = 1) → ∀ l, l = selOf g i nc → addD a b i = if l = [] ∨ (i = 1 ∧ a = l) then [] else [l]) := Lib.hid (fun i hi l hl => addD_sel ha.symm hb.symm hi hl)
    have HA := Lib.hid ha
    have HV := Lib.hid hv
    have hwb : 1 ≤ g.w ∧ g.w ≤ 16 := ⟨hv.dims.2.1, hv.dims.2.2.1⟩
    obtain ⟨w1, hw1⟩ : ∃ w1, W.alloc (.cells #[.int .i64 g.shape, .int .i64 g.w, .int .i64 g.h, .slice ah nh ch, .slice ac nc cc] 24) = w1 := ⟨_, rfl⟩
    rw [hw1] at hal hx
    have HW1 := Lib.hid hw1
    have hJ := h2.below hal
    have hws := hal.size
    have hxl := hx.lt
    clear ha hb hD hs hv hnl hw hw1
    obtain ⟨i3, hi3, hz30, hz31, hz32⟩ := info_parts info_int
    obtain ⟨i22, hi22, hz220, hz221, hz222⟩ := info_parts info_ints
    go_enter Try.func83, Try.ntmps83
    go_wp2_with fail
    rw [HW1.out]
    go_loopw [3, 4] (fun v c wr => ∃ i : Int, (0 ≤ i ∧ i ≤ 2) ∧ c = .int .i64 i ∧ OwnRows wr w1.heap.size 22 v (diagTo a b i) ∧ Below w1.heap.size w1 wr) (fun _ c _ => (2 - intOf c).toNat)
    case atStart => exact ⟨0, by omega, rfl, OwnRows.nil _ _ _, Below.refl _ _⟩
    case round =>
      obtain ⟨i, hi, rfl, hO, hBo⟩ := hrel
      obtain ⟨wo, rfl⟩ : ∃ wo, wo = wr := ⟨_, rfl⟩
      have hso := hBo.size
      have hxo := hx.below hBo
      have hJo := hJ.below hBo
      obtain ⟨d0, d1, d2, d3, d4⟩ := hxo.g5
      by_cases hlt : i < 2
      · have h01 : i = 0 ∨ i = 1 := by omega
        have HI := Lib.hid h01
        have tlt : decide (i < 2) = true := by simpa using hlt
        have HLN := Lib.hid (diagTo_len a b i)
        clear h01
        go_wp2_with fail
        clear d0 d1 d2 d3 d4
        go_loopw [5, 6] (fun v c wr => ∃ k : Nat, k ≤ nc ∧ c = .int .i64 k ∧ OwnInts wr wo.heap.size 3 v (selOf g i k) ∧ Below wo.heap.size wo wr) (fun _ c _ => nc - (intOf c).toNat)
        case atStart => exact ⟨0, by omega, rfl, OwnInts.nil _ _ _, Below.refl _ _⟩
        case round =>
          obtain ⟨k, hk, rfl, hC, hBi⟩ := hrel
          obtain ⟨wi, rfl⟩ : ∃ wi, wi = wr := ⟨_, rfl⟩
          have hsi := hBi.size
          have hxi := hxo.below hBi
          obtain ⟨d0, d1, d2, d3, d4⟩ := hxi.g5
          have hxl2 := hxi.lt
          by_cases hlt2 : k < nc
          · have hok : CellOk g wi ac nc cc k := ⟨hJo.below hBi, hwb, fun x hx => by have := HV.out.mem hx; have := HV.out.area; omega, hlt2⟩
            obtain ⟨⟨a1, a2⟩, a3, a4⟩ := hok.bd
            have hsl := selL_le (selD g i) k
            have hsu := selL_succ (selD g i) k
            have hsd : selD g i k = if i = 0 then decide (colL g k = rowL g k) else decide (colL g k = g.w - 1 - rowL g k) := rfl
            have hcX := fun w (h : CellOk g w ac nc cc k) => col_any g ah ac nh ch nc cc k w h
            have hcY := fun w (h : CellOk g w ac nc cc k) => row_any g ah ac nh ch nc cc k w h
            obtain ⟨X, hX⟩ : ∃ X, colL g k = X := ⟨_, rfl⟩
            obtain ⟨Y, hY⟩ : ∃ Y, rowL g k = Y := ⟨_, rfl⟩
            simp only [hX] at hcX
            simp only [hY] at hcY
            rw [hX] at a1 a2 hsd
            rw [hY] at a3 a4 hsd
            have HCX := Lib.hid hcX
            have HCY := Lib.hid hcY
            have HOK := Lib.hid hok
            have HSU := Lib.hid hsu
            have HSD := Lib.hid hsd
            obtain ⟨av, cv, rfl, _⟩ := hC.ints
            have hR5 : wi.ownsRow wo.heap.size 3 1 _ (selOf g i k).length ((selOf g i k).map (Value.int .i64)) := hC
            have hsl2 : (selOf g i k).length ≤ k := hsl
            obtain ⟨M, hM⟩ : ∃ M, (selOf g i k).length = M := ⟨_, rfl⟩
            rw [hM] at hR5 hsl2 hC ⊢
            have HM := Lib.hid hM
            have hlR := hR5.lt
            clear hcX hcY hok hsu hsd hX hY hM hsl
            go_wp2_with fail
            refine (HCX.out _ HOK.out).mono ?_
            rintro e w5 ⟨rfl, hB5⟩
            obtain ⟨d0, d1, d2, d3, d4⟩ := (hxi.below hB5).g5
            have hxl5 := (hxi.below hB5).lt
            go_wp2_with fail
            refine (HCY.out _ (HOK.out.below hB5)).mono ?_
            rintro e w6 ⟨rfl, hB6⟩
            obtain ⟨d0', d1', d2', d3', d4'⟩ := ((hxi.below hB5).below hB6).g5
            have hxl6 := ((hxi.below hB5).below hB6).lt
            have hB7 := hB5.on hB6
            have hR7 := ownsRow_below' hR5 hB7
            have hs7 := hB7.size
            clear d0 d1 d2 d3 d4
            have hyes : selD g i k = true → selOf g i (k + 1) = selOf g i k ++ [(k : Int)] := fun h => by show selL _ _ = _; rw [HSU.out, if_pos h]; rfl
            have hno : selD g i k = false → selOf g i (k + 1) = selOf g i k := fun h => by show selL _ _ = _; rw [HSU.out, if_neg (by rw [h]; decide)]; rfl
            have HY := Lib.hid hyes
            have HN := Lib.hid hno
            clear hyes hno
            rcases HI.out with rfl | rfl
            · by_cases hXY : X = Y
              · have HS1 : Hid (selD g 0 k = true) := Lib.hid (by rw [HSD.out, if_pos rfl]; simpa using hXY)
                have tx : (X == Y) = true := by rw [beq_iff_eq]; exact hXY
                clear hXY
                go_wp2_with (at_builtin; refine wpList_append_own2 _ rfl _ _ 22 rfl wo.heap.size 3 i3 (.int .i64 0) 1 8 Try.underlying22 hi3 hz30 hz31 hz32 rfl (by decide) _ _ _ (hR7.alloc _) rfl ⟨_, 0, none⟩ 1 1 [.int .i64 (k : Int)] rfl rfl (cell_one_new _ _ _) (by simp [Value.oneCell']) (by unfold maxLen; omega) (by omega) (by first | omega | (simp; omega)) ?_; intro v' w1 hown' hgrow hfr)
                go_roundw
                case rel =>
                  refine ⟨k + 1, by omega, by go_num, ?_, ((hBi.on hB7).alloc (by omega) _).grown hgrow (by simp; omega) (fun q e => (hlR q e).1)⟩
                  rw [HY.out HS1.out]
                  exact OwnInts.snoc (by rw [HM.out]; exact hown')
                case measure => simp [intOf]; omega
              · have HS1 : Hid (selD g 0 k = false) := Lib.hid (by rw [HSD.out, if_pos rfl]; simpa using hXY)
                have tx : (X == Y) = false := by rw [beq_eq_false_iff_ne]; exact hXY
                clear hXY
                go_wp2_with fail
                go_roundw
                case rel => exact ⟨k + 1, by omega, by go_num, by rw [HN.out HS1.out]; exact hC.below hB7, hBi.on hB7⟩
                case measure => simp [intOf]; omega
            · by_cases hXY : X = g.w - 1 - Y
              · have HS1 : Hid (selD g 1 k = true) := Lib.hid (by rw [HSD.out, if_neg (by decide)]; simpa using hXY)
                have tx : (X == g.w - 1 - Y) = true := by rw [beq_iff_eq]; exact hXY
                clear hXY
                go_wp2_with (at_builtin; refine wpList_append_own2 _ rfl _ _ 22 rfl wo.heap.size 3 i3 (.int .i64 0) 1 8 Try.underlying22 hi3 hz30 hz31 hz32 rfl (by decide) _ _ _ (hR7.alloc _) rfl ⟨_, 0, none⟩ 1 1 [.int .i64 (k : Int)] rfl rfl (cell_one_new _ _ _) (by simp [Value.oneCell']) (by unfold maxLen; omega) (by omega) (by first | omega | (simp; omega)) ?_; intro v' w1 hown' hgrow hfr)
                go_roundw
                case rel =>
                  refine ⟨k + 1, by omega, by go_num, ?_, ((hBi.on hB7).alloc (by omega) _).grown hgrow (by simp; omega) (fun q e => (hlR q e).1)⟩
                  rw [HY.out HS1.out]
                  exact OwnInts.snoc (by rw [HM.out]; exact hown')
                case measure => simp [intOf]; omega
              · have HS1 : Hid (selD g 1 k = false) := Lib.hid (by rw [HSD.out, if_neg (by decide)]; simpa using hXY)
                have tx : (X == g.w - 1 - Y) = false := by rw [beq_eq_false_iff_ne]; exact hXY
                clear hXY
                go_wp2_with fail
                go_roundw
                case rel => exact ⟨k + 1, by omega, by go_num, by rw [HN.out HS1.out]; exact hC.below hB7, hBi.on hB7⟩
                case measure => simp [intOf]; omega
          · obtain rfl : k = nc := by omega
            have hadd := HADD.out i HI.out _ rfl
            have hda := diagTo_add a b HI.out
            obtain ⟨us, hus, hE⟩ := hO
            have hus2 := ownsRow_below' hus hBi
            have hfr1 : 0 < (selOf g i k).length → _ ≠ _ := fun h => fresh_ne hC hus (by omega) h
            have hO2 : OwnRows wi w1.heap.size 22 _ (diagTo a b i) := ⟨us, hus2, hE.mono fun _ _ hu => hu.below hBi⟩
            obtain ⟨av, cv, rfl, hIv⟩ := hC.ints
            obtain ⟨l, hl⟩ : ∃ l, selOf g i k = l := ⟨_, rfl⟩
            rw [hl] at hadd hfr1 hIv ⊢
            obtain ⟨M, hM⟩ : ∃ M, l.length = M := ⟨_, rfl⟩
            rw [hM] at hIv hfr1 ⊢
            obtain ⟨K, hK⟩ : ∃ K, (diagTo a b i).length = K := ⟨_, rfl⟩
            have hKl : K ≤ 2 := by rw [← hK]; exact HLN.out
            have HM := Lib.hid hM
            have HDA := Lib.hid hda
            have HAD := Lib.hid hadd
            have HK := Lib.hid hK
            have HLE := Lib.hid hl
            have hMl : M ≤ 256 := by rw [← hM, ← hl]; have := selL_le (selD g i) k; exact Nat.le_trans this h256
            obtain ⟨ao, co, rfl, hRo⟩ := hO2.rows
            rw [hK] at hus hus2 hRo hO2 hE hfr1 ⊢
            have HFR := Lib.hid hfr1
            clear hM hda hadd hfr1 hl hK
            by_cases hz : M = 0
            · have HZ : Hid (l = []) := Lib.hid (List.eq_nil_of_length_eq_zero (by rw [HM.out]; exact hz))
              have tz : decide (0 < (M : Int)) = false := by simp; omega
              have tz' : decide (0 < M) = false := by simp; omega
              clear hz
              go_wp2_with fail
              go_roundw
              case rel => exact ⟨i + 1, by omega, by go_num, by rw [HDA.out, HAD.out, if_pos (.inl HZ.out), List.append_nil]; exact hO2, hBo.on hBi⟩
              case measure => simp [intOf]; omega
            · have HZ : Hid (l ≠ []) := Lib.hid (fun e => hz (by rw [← HM.out, e]; rfl))
              have tz : decide (0 < (M : Int)) = true := by simp; omega
              have tz' : decide (0 < M) = true := by simp; omega
              clear hz
              by_cases hk0 : K = 0
              · have tk : ((K : Int) == 0) = true := by rw [hk0]; rfl
                have HP : Hid (addD a b i = [l]) := Lib.hid (by
                  rw [HAD.out, if_neg]
                  rintro (h | ⟨h, e⟩)
                  · exact HZ.out h
                  · have h1 := HK.out
                    rw [h, hk0] at h1
                    have h2 : diagTo a b 1 = [] := List.eq_nil_of_length_eq_zero h1
                    unfold diagTo onel at h2
                    rw [if_neg (by decide), if_pos rfl, if_neg (by rw [e]; exact HZ.out)] at h2
                    cases h2)
                clear hk0 hO2
                go_wp2_with (at_builtin; refine wpList_append_own2 _ rfl _ _ 28 rfl _ 22 i22 (.slice none 0 0) 1 24 Try.underlying28 hi22 hz220 hz221 hz222 rfl (by decide) _ _ _ (hus2.alloc _) rfl ⟨_, 0, none⟩ 1 1 [(.slice av M cv)] rfl rfl (cell_one_new _ _ _) (by simp [Value.oneCell']) (by unfold maxLen; omega) (by omega) (by first | omega | (simp; omega)) ?_; intro v' w1 hown' hgrow hfr)
                go_roundw
                case rel =>
                  refine ⟨i + 1, by omega, by go_num, ?_, ((hBo.on hBi).alloc (by omega) _).grown hgrow (by simp; omega) (fun q e => (hus2.lt q e).1)⟩
                  rw [HDA.out, HP.out]
                  exact OwnRows.push (hE.mono fun _ _ hu => (hu.below hBi).below ((Below.refl _ _).alloc (Nat.le_refl _) _)) (by rw [HK.out]; exact hown') hgrow hfr (hIv.below ((Below.refl _ _).alloc (Nat.le_refl _) _)) HFR.out
                case measure => simp [intOf]; omega
              · have tk : ((K : Int) == 0) = false := by rw [beq_eq_false_iff_ne]; omega
                have hi1 : i = 1 := by
                  rcases HI.out with h | h
                  · have h1 := HK.out
                    rw [h] at h1
                    exact absurd (by rw [← h1]; rfl) hk0
                  · exact h
                subst hi1
                have hda1 : diagTo a b 1 = [a] := by
                  by_cases hae : a = []
                  · exact absurd (by rw [← HK.out]; unfold diagTo onel; rw [if_neg (by decide), if_pos rfl, if_pos hae]; rfl) hk0
                  · unfold diagTo onel; rw [if_neg (by decide), if_pos rfl, if_neg hae]
                have hK1 : K = 1 := by rw [← HK.out, hda1]; rfl
                subst hK1
                rw [hda1] at hRo
                obtain ⟨b0, o0, rfl, hb0⟩ := hRo.at' (by omega)
                obtain ⟨ar, nr, cr, hcr, hIr⟩ := hRo.row b0 o0 rfl 0 (by omega)
                have hIr' : Ints wi ar nr cr a := hIr
                have hcr' : wi.cell? ⟨b0, o0, none⟩ = some (.slice ar nr cr) := hcr
                have hSame := same13_any ar av nr cr M cv a l wi hIr' hIv
                clear hk0 hcr hIr hda1
                by_cases hal2 : a = l
                · have heq : eqL a l = true := by unfold eqL; simpa using hal2
                  rw [heq] at hSame
                  have HSM := Lib.hid hSame
                  have HP : Hid (addD a b 1 = []) := Lib.hid (by rw [HAD.out, if_pos (.inr ⟨rfl, hal2⟩)])
                  clear hSame heq hal2
                  go_wp2_with fail
                  refine HSM.out.mono ?_
                  rintro e w7 ⟨rfl, q, rfl⟩
                  go_wp2_with fail
                  go_roundw
                  case rel => exact ⟨1 + 1, by omega, by go_num, by rw [HDA.out, HP.out, List.append_nil]; exact hO2.drewN q, below_drewN (hBo.on hBi) q⟩
                  case measure => simp [intOf]
                · have heq : eqL a l = false := by unfold eqL; simpa using hal2
                  rw [heq] at hSame
                  have HSM := Lib.hid hSame
                  have HP : Hid (addD a b 1 = [l]) := Lib.hid (by rw [HAD.out, if_neg (fun h => h.elim HZ.out (fun h => hal2 h.2))])
                  clear hSame heq hal2
                  go_wp2_with fail
                  refine HSM.out.mono ?_
                  rintro e w7 ⟨rfl, q, rfl⟩
                  have hus3 := ownsRow_drewN hus2 q
                  go_wp2_with (at_builtin; refine wpList_append_own2 _ rfl _ _ 28 rfl _ 22 i22 (.slice none 0 0) 1 24 Try.underlying28 hi22 hz220 hz221 hz222 rfl (by decide) _ _ _ (hus3.alloc _) rfl ⟨_, 0, none⟩ 1 1 [(.slice av M cv)] rfl rfl (cell_one_new _ _ _) (by simp [Value.oneCell']) (by unfold maxLen; omega) (by omega) (by first | omega | (simp; omega)) ?_; intro v' w1 hown' hgrow hfr)
                  go_roundw
                  case rel =>
                    refine ⟨1 + 1, by omega, by go_num, ?_, ((below_drewN (hBo.on hBi) q).alloc (by simp; omega) _).grown hgrow (by simp; omega) (fun q e => (hus2.lt q e).1)⟩
                    rw [HDA.out, HP.out]
                    exact OwnRows.push (hE.mono fun _ _ hu => ((hu.below hBi).below (Below.drewN0 _ q)).below ((Below.refl _ _).alloc (Nat.le_refl _) _)) (by rw [HK.out]; exact hown') hgrow hfr ((hIv.drewN q).below ((Below.refl _ _).alloc (Nat.le_refl _) _)) HFR.out
                  case measure => simp [intOf]
      · obtain rfl : i = 2 := by omega
        go_wp2_with fail
        go_ret
        exact ⟨_, rfl, hO.mono hws, hal.on hBo⟩
  · have tw : (g.w == g.h) = false := by rw [beq_eq_false_iff_ne]; exact hw
    have hD : diagL g = [] := by unfold diagL; rw [if_neg hw]
    rw [hD]
    obtain ⟨d0, d1, d2, d3, d4⟩ := hx.g5
    have hxl := hx.lt
    clear hD hw hs hv
    go_enter Try.func83, Try.ntmps83
    go_wp2_with fail
    go_loopw [3, 4] (fun v c wr => v = .slice none 0 0 ∧ c = .int .i64 0 ∧ wr = W.alloc (.cells #[.int .i64 g.shape, .int .i64 g.w, .int .i64 g.h, .slice ah nh ch, .slice ac nc cc] 24)) (fun _ _ _ => 0)
    case atStart => exact ⟨rfl, rfl, rfl⟩
    case round =>
      obtain ⟨rfl, rfl, rfl⟩ := hrel
      go_wp2_with fail
      go_ret
      exact ⟨_, rfl, OwnRows.nil _ _ _, hal⟩
end Go.Proofs.Ytjiacdihfbbfjaa

/- Contract of ref13.Family. -/
namespace Go.Proofs.Ytjiacdihfbbfjaa
open Go.RowKit

/-- A row of ints and a row of slices, both of the call's own, that share no memory. -/
structure Duo (w : World) (base : Nat) (va : Value) (l : List Int) (vo : Value) (ll : List (List Int)) : Prop where
  own : OwnInts w base 3 va l
  rows : ∃ us, w.ownsRow base 22 1 vo ll.length us ∧ Elems w vo.ownBlock us ll ∧ Elems w va.ownBlock us ll
  apart : va.ownBlock = none ∨ va.ownBlock ≠ vo.ownBlock
theorem Duo.out {w : World} {base : Nat} {va vo : Value} {l : List Int} {ll : List (List Int)} (h : Duo w base va l vo ll) : OwnRows w base 22 vo ll := let ⟨us, h1, h2, _⟩ := h.rows; ⟨us, h1, h2⟩
theorem Duo.below {w w' : World} {base : Nat} {va vo : Value} {l : List Int} {ll : List (List Int)} (h : Duo w base va l vo ll) (hb : Below w.heap.size w w') : Duo w' base va l vo ll :=
  let ⟨us, h1, h2, h3⟩ := h.rows; ⟨h.own.below hb, ⟨us, ownsRow_below' h1 hb, h2.mono fun _ _ hu => hu.below hb, h3.mono fun _ _ hu => hu.below hb⟩, h.apart⟩
theorem Duo.nil (w : World) (base : Nat) : Duo w base (.slice none 0 0) [] (.slice none 0 0) [] := ⟨OwnInts.nil _ _ _, ⟨[], World.ownsRow_nil w base _ 1, .nil, .nil⟩, .inl rfl⟩
theorem Elems.both {w w2 w' : World} {r1 r2 r' : Option Nat} {us : List Value} {ls : List (List Int)} (h1 : Elems w r1 us ls) (h2 : Elems w2 r2 us ls) (hf : ∀ u l, Elem w r1 u l → Elem w2 r2 u l → Elem w' r' u l) : Elems w' r' us ls := by
  induction h1 with
  | nil => exact .nil
  | cons a _ ih =>
    cases h2 with
    | cons b h2 => exact .cons (hf _ _ a b) (ih h2)
theorem elem_grown {w w' : World} {r1 r2 : Option Nat} {u : Value} {l : List Int} (h : Elem w r1 u l) (hg : w.grownBy w' r1) (hr : ∀ b, b < w.heap.size → 0 < l.length → u.ownBlock = some b → u.ownBlock ≠ r2) : Elem w' r2 u l := by
  obtain ⟨a, n, c, rfl, hI, hne⟩ := h
  refine ⟨a, n, c, rfl, hI.grown hg hne, fun hn => ?_⟩
  obtain ⟨b, o, rfl, hl⟩ := hI.at' hn
  exact hr b hl (by rw [hI.len]; exact hn) rfl
theorem Elem.ne {w : World} {r : Option Nat} {u : Value} {l : List Int} (h : Elem w r u l) (h0 : 0 < l.length) : u.ownBlock ≠ r := by
  obtain ⟨a, n, c, rfl, hI, hne⟩ := h
  exact hne (by rw [← hI.len]; exact h0)
theorem Duo.stepA {w w' : World} {base n : Nat} {va va' vo : Value} {l : List Int} {ll : List (List Int)} {x : Int} {o : Obj} (h : Duo w base va l vo ll) (hn : l.length = n)
    (hown : w'.ownsRow base 3 1 va' (n + 1) (l.map (Value.int .i64) ++ [.int .i64 x])) (hg : (w.alloc o).grownBy w' va.ownBlock) (hfr : va'.ownBlock = va.ownBlock ∨ va'.ownBlock = some (w.alloc o).heap.size) : Duo w' base va' (l ++ [x]) vo ll := by
  subst hn
  have hb : Below w.heap.size w (w.alloc o) := (Below.refl _ _).alloc (Nat.le_refl _) _
  have h' := h.below hb
  obtain ⟨us, h1, h2, h3⟩ := h.rows
  obtain ⟨h1', h2', h3'⟩ : (w.alloc o).ownsRow base 22 1 vo ll.length us ∧ Elems (w.alloc o) vo.ownBlock us ll ∧ Elems (w.alloc o) va.ownBlock us ll := ⟨ownsRow_below' h1 hb, h2.mono fun _ _ hu => hu.below hb, h3.mono fun _ _ hu => hu.below hb⟩
  have hap : vo.ownBlock = none ∨ vo.ownBlock ≠ va.ownBlock := by
    rcases h.apart with e | e
    · by_cases e2 : vo.ownBlock = none
      · exact .inl e2
      · exact .inr (by rw [e]; exact e2)
    · exact .inr (Ne.symm e)
  refine ⟨OwnInts.snoc hown, ⟨us, World.ownsRow.kept h1' hg hap, ?_, ?_⟩, ?_⟩
  · exact Elems.both h3' h2' fun u l e1 e2 => elem_grown e1 hg fun b hb h0 hu => e2.ne h0
  · exact Elems.both h3' h3 fun u l e1 e2 => elem_grown e1 hg fun b hb h0 hu => by
      rcases hfr with e | e
      · rw [e]; exact e2.ne h0
      · obtain ⟨a, n, c, rfl, hI, _⟩ := e2
        obtain ⟨b2, o2, rfl, hl2⟩ := hI.at' (by rw [← hI.len]; exact h0)
        rw [e]
        simp [Value.ownBlock]
        omega
  · rcases hfr with e | e
    · rw [e]; exact h.apart
    · right
      rw [e]
      intro e2
      have := (h1.lt _ e2.symm).2
      simp at this
      omega
theorem Duo.push {w w' : World} {base n : Nat} {va vo vo' : Value} {l x : List Int} {ll : List (List Int)} {us : List Value} {a : Option Addr} {m c : Nat} (hO : OwnInts w base 3 va l) (h2 : Elems w vo.ownBlock us ll) (h3 : Elems w va.ownBlock us ll) (hap : va.ownBlock = none ∨ va.ownBlock ≠ vo.ownBlock)
    (hn : ll.length = n) (hown : w'.ownsRow base 22 1 vo' (n + 1) (us ++ [.slice a m c])) (hg : w.grownBy w' vo.ownBlock) (hfr : vo'.ownBlock = vo.ownBlock ∨ vo'.ownBlock = some w.heap.size)
    (hI : Ints w a m c x) (hne : 0 < m → (Value.slice a m c).ownBlock ≠ vo.ownBlock ∧ (Value.slice a m c).ownBlock ≠ va.ownBlock) : Duo w' base va l vo' (ll ++ [x]) := by
  subst hn
  have hx : ∀ r, (0 < m → (Value.slice a m c).ownBlock ≠ r) → Elem w r (.slice a m c) x := fun r hr => ⟨a, m, c, rfl, hI, hr⟩
  have k2 : Elems w vo.ownBlock (us ++ [.slice a m c]) (ll ++ [x]) := h2.snoc (hx _ fun h => (hne h).1)
  have k3 : Elems w va.ownBlock (us ++ [.slice a m c]) (ll ++ [x]) := h3.snoc (hx _ fun h => (hne h).2)
  refine ⟨hO.grown hg hap, ⟨_, by simpa using hown, ?_, ?_⟩, ?_⟩
  · exact k2.mono fun u l e1 => elem_grown e1 hg fun b hb h0 hu => by
      rcases hfr with e | e
      · rw [e]; exact e1.ne h0
      · rw [e, hu]; intro e3; have := Option.some.inj e3; omega
  · exact Elems.both k2 k3 fun u l e1 e2 => elem_grown e1 hg fun b hb h0 hu => e2.ne h0
  · rcases hfr with e | e
    · rw [e]; exact hap
    · by_cases e2 : va.ownBlock = none
      · exact .inl e2
      · right
        rw [e]
        intro e3
        have := (hO.lt _ e3).2
        omega

set_option maxRecDepth 20000 in
set_option maxHeartbeats 2000000 in
theorem rfam_all (g : Grid) (ah ac : Option Addr) (nh ch nc cc : Nat) (W : World) (h1 : Ints W ah nh ch g.holes) (h2 : Ints W ac nc cc g.cells) (hn : nh ≤ 10000000) (hm : nc ≤ 10000000000) (he : checkErr g = 0) : Calls Try.prog 48 #[.agg #[.int .i64 g.shape, .int .i64 g.w, .int .i64 g.h, .slice ah nh ch, .slice ac nc cc], .int .i64 7] W (RetRowsE W 22 [ints nc] 0) := by
  have hv := valid_of he
  have hal : Below W.heap.size W (W.alloc (.cells #[.int .i64 g.shape, .int .i64 g.w, .int .i64 g.h, .slice ah nh ch, .slice ac nc cc] 24)) := (Below.refl _ _).alloc (Nat.le_refl _) _
  have hc := refNeighbors_any g ah ac nh ch nc cc _ (h1.below hal) (h2.below hal) hn hm
  have hnb : nbOut g = nbL g := by unfold nbOut; rw [if_pos he]
  rw [he, hnb] at hc
  have HC := Lib.hid hc
  have hx := Box.new W #[.int .i64 g.shape, .int .i64 g.w, .int .i64 g.h, .slice ah nh ch, .slice ac nc cc] 24
  have hnl := h2.len
  have h256 := hv.len
  have HV := Lib.hid hv
  rw [hnl] at h256
  have HNL := Lib.hid hnl
  clear hc hv he hnb hnl
  obtain ⟨i3, hi3, hz30, hz31, hz32⟩ := info_parts info_int
  obtain ⟨i22, hi22, hz220, hz221, hz222⟩ := info_parts info_ints
  go_enter Try.func48, Try.ntmps48
  go_wp2_with fail
  refine HC.out.mono ?_
  rintro e w1 ⟨v1, rfl, hO1, hB1⟩
  have hx1 := hx.below hB1
  have hxl := hx1.lt
  have hB2 := hal.on hB1
  clear hx hB1 hal
  go_wp2_with fail
  go_loopw [8, 9, 10] (fun v8 v c wr => ∃ k : Nat, k ≤ nc ∧ v8 = .slice none 0 0 ∧ c = .int .i64 k ∧ OwnInts wr w1.heap.size 3 v (ints k) ∧ Below w1.heap.size w1 wr) (fun _ _ c _ => nc - (intOf c).toNat)
  case atStart => exact ⟨0, by omega, rfl, rfl, OwnInts.nil _ _ _, Below.refl _ _⟩
  case round =>
    obtain ⟨k, hk, rfl, rfl, hO, hBo⟩ := hrel
    obtain ⟨wo, rfl⟩ : ∃ wo, wo = wr := ⟨_, rfl⟩
    have hso := hBo.size
    obtain ⟨d0, d1, d2, d3, d4⟩ := (hx1.below hBo).g5
    have hxl2 := (hx1.below hBo).lt
    by_cases hlt : k < nc
    · obtain ⟨ao, co, rfl, _⟩ := hO.ints
      have hOr : wo.ownsRow w1.heap.size 3 1 _ (ints k).length ((ints k).map (Value.int .i64)) := hO
      rw [ints_len] at hOr ⊢
      have hl := hOr.lt
      go_wp2_with (at_builtin; refine wpList_append_own2 _ rfl _ _ 22 rfl w1.heap.size 3 i3 (.int .i64 0) 1 8 Try.underlying22 hi3 hz30 hz31 hz32 rfl (by decide) _ _ _ (hOr.alloc _) rfl ⟨_, 0, none⟩ 1 1 [.int .i64 (k : Int)] rfl rfl (cell_one_new _ _ _) (by simp [Value.oneCell']) (by unfold maxLen; omega) (by omega) (by first | omega | (simp; omega)) ?_; intro v' w1 hown' hgrow hfr)
      go_roundw
      case rel =>
        refine ⟨k + 1, by omega, rfl, by go_num, ?_, (hBo.alloc (by omega) _).grown hgrow (by simp; omega) (fun q e => (hl q e).1)⟩
        rw [ints_succ]
        exact OwnInts.snoc (by rw [ints_len]; exact hown')
      case measure => simp [intOf]; omega
    · obtain rfl : k = nc := by omega
      obtain ⟨a, c, rfl, hI⟩ := hO.ints
      go_wp2_with fail
      refine bodyPost_ret (v := .tuple #[_, .int .i64 0]) (by simp [results, Try.results48, go_sem]; rfl) rfl ?_
      exact ⟨_, rfl, OwnRows.one hI (by have := hB2.size; omega), (hB2.on hBo).alloc (by have := hB2.size; omega) _⟩
set_option maxRecDepth 20000 in
set_option maxHeartbeats 2000000 in
theorem rfam_around (g : Grid) (ah ac : Option Addr) (nh ch nc cc : Nat) (W : World) (h1 : Ints W ah nh ch g.holes) (h2 : Ints W ac nc cc g.cells) (hn : nh ≤ 10000000) (hm : nc ≤ 10000000000) (he : checkErr g = 0) : Calls Try.prog 48 #[.agg #[.int .i64 g.shape, .int .i64 g.w, .int .i64 g.h, .slice ah nh ch, .slice ac nc cc], .int .i64 4] W (RetRowsE W 22 (nbL g) 0) := by
  have hv := valid_of he
  have hal : Below W.heap.size W (W.alloc (.cells #[.int .i64 g.shape, .int .i64 g.w, .int .i64 g.h, .slice ah nh ch, .slice ac nc cc] 24)) := (Below.refl _ _).alloc (Nat.le_refl _) _
  have hc := refNeighbors_any g ah ac nh ch nc cc _ (h1.below hal) (h2.below hal) hn hm
  have hnb : nbOut g = nbL g := by unfold nbOut; rw [if_pos he]
  rw [he, hnb] at hc
  have HC := Lib.hid hc
  have hx := Box.new W #[.int .i64 g.shape, .int .i64 g.w, .int .i64 g.h, .slice ah nh ch, .slice ac nc cc] 24
  have hnl := h2.len
  have h256 := hv.len
  have HV := Lib.hid hv
  rw [hnl] at h256
  have HNL := Lib.hid hnl
  clear hc hv he hnb hnl
  obtain ⟨i3, hi3, hz30, hz31, hz32⟩ := info_parts info_int
  obtain ⟨i22, hi22, hz220, hz221, hz222⟩ := info_parts info_ints
  go_enter Try.func48, Try.ntmps48
  go_wp2_with fail
  refine HC.out.mono ?_
  rintro e w1 ⟨v1, rfl, hO1, hB1⟩
  have hx1 := hx.below hB1
  have hxl := hx1.lt
  have hB2 := hal.on hB1
  clear hx hB1 hal
  go_wp2_with fail
  go_loopw [8, 9, 10] (fun v8 v c wr => ∃ k : Nat, k ≤ nc ∧ v8 = .slice none 0 0 ∧ c = .int .i64 k ∧ OwnInts wr w1.heap.size 3 v (ints k) ∧ Below w1.heap.size w1 wr) (fun _ _ c _ => nc - (intOf c).toNat)
  case atStart => exact ⟨0, by omega, rfl, rfl, OwnInts.nil _ _ _, Below.refl _ _⟩
  case round =>
    obtain ⟨k, hk, rfl, rfl, hO, hBo⟩ := hrel
    obtain ⟨wo, rfl⟩ : ∃ wo, wo = wr := ⟨_, rfl⟩
    have hso := hBo.size
    obtain ⟨d0, d1, d2, d3, d4⟩ := (hx1.below hBo).g5
    have hxl2 := (hx1.below hBo).lt
    by_cases hlt : k < nc
    · obtain ⟨ao, co, rfl, _⟩ := hO.ints
      have hOr : wo.ownsRow w1.heap.size 3 1 _ (ints k).length ((ints k).map (Value.int .i64)) := hO
      rw [ints_len] at hOr ⊢
      have hl := hOr.lt
      go_wp2_with (at_builtin; refine wpList_append_own2 _ rfl _ _ 22 rfl w1.heap.size 3 i3 (.int .i64 0) 1 8 Try.underlying22 hi3 hz30 hz31 hz32 rfl (by decide) _ _ _ (hOr.alloc _) rfl ⟨_, 0, none⟩ 1 1 [.int .i64 (k : Int)] rfl rfl (cell_one_new _ _ _) (by simp [Value.oneCell']) (by unfold maxLen; omega) (by omega) (by first | omega | (simp; omega)) ?_; intro v' w1 hown' hgrow hfr)
      go_roundw
      case rel =>
        refine ⟨k + 1, by omega, rfl, by go_num, ?_, (hBo.alloc (by omega) _).grown hgrow (by simp; omega) (fun q e => (hl q e).1)⟩
        rw [ints_succ]
        exact OwnInts.snoc (by rw [ints_len]; exact hown')
      case measure => simp [intOf]; omega
    · obtain rfl : k = nc := by omega
      clear hO
      go_wp2_with fail
      refine bodyPost_ret (v := .tuple #[v1, .int .i64 0]) (by simp [results, Try.results48, go_sem]) rfl ?_
      exact ⟨_, rfl, (hO1.below hBo).mono (by simp), hB2.on hBo⟩
set_option maxRecDepth 20000 in
set_option maxHeartbeats 2000000 in
theorem rfam_rows (g : Grid) (ah ac : Option Addr) (nh ch nc cc : Nat) (W : World) (h1 : Ints W ah nh ch g.holes) (h2 : Ints W ac nc cc g.cells) (hn : nh ≤ 10000000) (hm : nc ≤ 10000000000) (he : checkErr g = 0) : Calls Try.prog 48 #[.agg #[.int .i64 g.shape, .int .i64 g.w, .int .i64 g.h, .slice ah nh ch, .slice ac nc cc], .int .i64 1] W (RetRowsE W 22 (refLines g 1) 0) := by
  have hv := valid_of he
  have hal : Below W.heap.size W (W.alloc (.cells #[.int .i64 g.shape, .int .i64 g.w, .int .i64 g.h, .slice ah nh ch, .slice ac nc cc] 24)) := (Below.refl _ _).alloc (Nat.le_refl _) _
  have hc := refNeighbors_any g ah ac nh ch nc cc _ (h1.below hal) (h2.below hal) hn hm
  have hnb : nbOut g = nbL g := by unfold nbOut; rw [if_pos he]
  rw [he, hnb] at hc
  have HC := Lib.hid hc
  have hx := Box.new W #[.int .i64 g.shape, .int .i64 g.w, .int .i64 g.h, .slice ah nh ch, .slice ac nc cc] 24
  have hnl := h2.len
  have h256 := hv.len
  have HV := Lib.hid hv
  rw [hnl] at h256
  have HNL := Lib.hid hnl
  clear hc hv he hnb hnl
  obtain ⟨i3, hi3, hz30, hz31, hz32⟩ := info_parts info_int
  obtain ⟨i22, hi22, hz220, hz221, hz222⟩ := info_parts info_ints
  go_enter Try.func48, Try.ntmps48
  go_wp2_with fail
  refine HC.out.mono ?_
  rintro e w1 ⟨v1, rfl, hO1, hB1⟩
  have hx1 := hx.below hB1
  have hxl := hx1.lt
  have hB2 := hal.on hB1
  clear hx hB1 hal
  go_wp2_with fail
  go_loopw [8, 9, 10] (fun v8 v c wr => ∃ k : Nat, k ≤ nc ∧ v8 = .slice none 0 0 ∧ c = .int .i64 k ∧ OwnInts wr w1.heap.size 3 v (ints k) ∧ Below w1.heap.size w1 wr) (fun _ _ c _ => nc - (intOf c).toNat)
  case atStart => exact ⟨0, by omega, rfl, rfl, OwnInts.nil _ _ _, Below.refl _ _⟩
  case round =>
    obtain ⟨k, hk, rfl, rfl, hO, hBo⟩ := hrel
    obtain ⟨wo, rfl⟩ : ∃ wo, wo = wr := ⟨_, rfl⟩
    have hso := hBo.size
    obtain ⟨d0, d1, d2, d3, d4⟩ := (hx1.below hBo).g5
    have hxl2 := (hx1.below hBo).lt
    by_cases hlt : k < nc
    · obtain ⟨ao, co, rfl, _⟩ := hO.ints
      have hOr : wo.ownsRow w1.heap.size 3 1 _ (ints k).length ((ints k).map (Value.int .i64)) := hO
      rw [ints_len] at hOr ⊢
      have hl := hOr.lt
      go_wp2_with (at_builtin; refine wpList_append_own2 _ rfl _ _ 22 rfl w1.heap.size 3 i3 (.int .i64 0) 1 8 Try.underlying22 hi3 hz30 hz31 hz32 rfl (by decide) _ _ _ (hOr.alloc _) rfl ⟨_, 0, none⟩ 1 1 [.int .i64 (k : Int)] rfl rfl (cell_one_new _ _ _) (by simp [Value.oneCell']) (by unfold maxLen; omega) (by omega) (by first | omega | (simp; omega)) ?_; intro v' w1 hown' hgrow hfr)
      go_roundw
      case rel =>
        refine ⟨k + 1, by omega, rfl, by go_num, ?_, (hBo.alloc (by omega) _).grown hgrow (by simp; omega) (fun q e => (hl q e).1)⟩
        rw [ints_succ]
        exact OwnInts.snoc (by rw [ints_len]; exact hown')
      case measure => simp [intOf]; omega
    · obtain rfl : k = nc := by omega
      have HLI := Lib.hid (reflines_any g 1 ah ac nh ch k cc wo ((h2.below hB2).below hBo) HV.out (.inl rfl))
      clear hO
      go_wp2_with fail
      refine HLI.out.mono ?_
      rintro e w7 ⟨v7, rfl, hO7, hB7⟩
      go_wp2_with fail
      refine bodyPost_ret (v := .tuple #[v7, .int .i64 0]) (by simp [results, Try.results48, go_sem]) rfl ?_
      exact ⟨_, rfl, hO7.mono (by have := hB2.size; have := hBo.size; omega), (hB2.on hBo).on hB7⟩
set_option maxRecDepth 20000 in
set_option maxHeartbeats 2000000 in
theorem rfam_cols (g : Grid) (ah ac : Option Addr) (nh ch nc cc : Nat) (W : World) (h1 : Ints W ah nh ch g.holes) (h2 : Ints W ac nc cc g.cells) (hn : nh ≤ 10000000) (hm : nc ≤ 10000000000) (he : checkErr g = 0) : Calls Try.prog 48 #[.agg #[.int .i64 g.shape, .int .i64 g.w, .int .i64 g.h, .slice ah nh ch, .slice ac nc cc], .int .i64 2] W (RetRowsE W 22 (refLines g 2) 0) := by
  have hv := valid_of he
  have hal : Below W.heap.size W (W.alloc (.cells #[.int .i64 g.shape, .int .i64 g.w, .int .i64 g.h, .slice ah nh ch, .slice ac nc cc] 24)) := (Below.refl _ _).alloc (Nat.le_refl _) _
  have hc := refNeighbors_any g ah ac nh ch nc cc _ (h1.below hal) (h2.below hal) hn hm
  have hnb : nbOut g = nbL g := by unfold nbOut; rw [if_pos he]
  rw [he, hnb] at hc
  have HC := Lib.hid hc
  have hx := Box.new W #[.int .i64 g.shape, .int .i64 g.w, .int .i64 g.h, .slice ah nh ch, .slice ac nc cc] 24
  have hnl := h2.len
  have h256 := hv.len
  have HV := Lib.hid hv
  rw [hnl] at h256
  have HNL := Lib.hid hnl
  clear hc hv he hnb hnl
  obtain ⟨i3, hi3, hz30, hz31, hz32⟩ := info_parts info_int
  obtain ⟨i22, hi22, hz220, hz221, hz222⟩ := info_parts info_ints
  go_enter Try.func48, Try.ntmps48
  go_wp2_with fail
  refine HC.out.mono ?_
  rintro e w1 ⟨v1, rfl, hO1, hB1⟩
  have hx1 := hx.below hB1
  have hxl := hx1.lt
  have hB2 := hal.on hB1
  clear hx hB1 hal
  go_wp2_with fail
  go_loopw [8, 9, 10] (fun v8 v c wr => ∃ k : Nat, k ≤ nc ∧ v8 = .slice none 0 0 ∧ c = .int .i64 k ∧ OwnInts wr w1.heap.size 3 v (ints k) ∧ Below w1.heap.size w1 wr) (fun _ _ c _ => nc - (intOf c).toNat)
  case atStart => exact ⟨0, by omega, rfl, rfl, OwnInts.nil _ _ _, Below.refl _ _⟩
  case round =>
    obtain ⟨k, hk, rfl, rfl, hO, hBo⟩ := hrel
    obtain ⟨wo, rfl⟩ : ∃ wo, wo = wr := ⟨_, rfl⟩
    have hso := hBo.size
    obtain ⟨d0, d1, d2, d3, d4⟩ := (hx1.below hBo).g5
    have hxl2 := (hx1.below hBo).lt
    by_cases hlt : k < nc
    · obtain ⟨ao, co, rfl, _⟩ := hO.ints
      have hOr : wo.ownsRow w1.heap.size 3 1 _ (ints k).length ((ints k).map (Value.int .i64)) := hO
      rw [ints_len] at hOr ⊢
      have hl := hOr.lt
      go_wp2_with (at_builtin; refine wpList_append_own2 _ rfl _ _ 22 rfl w1.heap.size 3 i3 (.int .i64 0) 1 8 Try.underlying22 hi3 hz30 hz31 hz32 rfl (by decide) _ _ _ (hOr.alloc _) rfl ⟨_, 0, none⟩ 1 1 [.int .i64 (k : Int)] rfl rfl (cell_one_new _ _ _) (by simp [Value.oneCell']) (by unfold maxLen; omega) (by omega) (by first | omega | (simp; omega)) ?_; intro v' w1 hown' hgrow hfr)
      go_roundw
      case rel =>
        refine ⟨k + 1, by omega, rfl, by go_num, ?_, (hBo.alloc (by omega) _).grown hgrow (by simp; omega) (fun q e => (hl q e).1)⟩
        rw [ints_succ]
        exact OwnInts.snoc (by rw [ints_len]; exact hown')
      case measure => simp [intOf]; omega
    · obtain rfl : k = nc := by omega
      have HLI := Lib.hid (reflines_any g 2 ah ac nh ch k cc wo ((h2.below hB2).below hBo) HV.out (.inr (.inl rfl)))
      clear hO
      go_wp2_with fail
      refine HLI.out.mono ?_
      rintro e w7 ⟨v7, rfl, hO7, hB7⟩
      go_wp2_with fail
      refine bodyPost_ret (v := .tuple #[v7, .int .i64 0]) (by simp [results, Try.results48, go_sem]) rfl ?_
      exact ⟨_, rfl, hO7.mono (by have := hB2.size; have := hBo.size; omega), (hB2.on hBo).on hB7⟩
set_option maxRecDepth 20000 in
set_option maxHeartbeats 2000000 in
theorem rfam_hex (g : Grid) (ah ac : Option Addr) (nh ch nc cc : Nat) (W : World) (h1 : Ints W ah nh ch g.holes) (h2 : Ints W ac nc cc g.cells) (hn : nh ≤ 10000000) (hm : nc ≤ 10000000000) (he : checkErr g = 0) (hs : g.shape = 2) : Calls Try.prog 48 #[.agg #[.int .i64 g.shape, .int .i64 g.w, .int .i64 g.h, .slice ah nh ch, .slice ac nc cc], .int .i64 3] W (RetRowsE W 22 (refLines g 3) 0) := by
  have ts : (g.shape == 1) = false := by rw [hs]; rfl
  have HS := Lib.hid hs
  clear hs
  have hv := valid_of he
  have hal : Below W.heap.size W (W.alloc (.cells #[.int .i64 g.shape, .int .i64 g.w, .int .i64 g.h, .slice ah nh ch, .slice ac nc cc] 24)) := (Below.refl _ _).alloc (Nat.le_refl _) _
  have hc := refNeighbors_any g ah ac nh ch nc cc _ (h1.below hal) (h2.below hal) hn hm
  have hnb : nbOut g = nbL g := by unfold nbOut; rw [if_pos he]
  rw [he, hnb] at hc
  have HC := Lib.hid hc
  have hx := Box.new W #[.int .i64 g.shape, .int .i64 g.w, .int .i64 g.h, .slice ah nh ch, .slice ac nc cc] 24
  have hnl := h2.len
  have h256 := hv.len
  have HV := Lib.hid hv
  rw [hnl] at h256
  have HNL := Lib.hid hnl
  clear hc hv he hnb hnl
  obtain ⟨i3, hi3, hz30, hz31, hz32⟩ := info_parts info_int
  obtain ⟨i22, hi22, hz220, hz221, hz222⟩ := info_parts info_ints
  go_enter Try.func48, Try.ntmps48
  go_wp2_with fail
  refine HC.out.mono ?_
  rintro e w1 ⟨v1, rfl, hO1, hB1⟩
  have hx1 := hx.below hB1
  have hxl := hx1.lt
  have hB2 := hal.on hB1
  clear hx hB1 hal
  go_wp2_with fail
  go_loopw [8, 9, 10] (fun v8 v c wr => ∃ k : Nat, k ≤ nc ∧ v8 = .slice none 0 0 ∧ c = .int .i64 k ∧ OwnInts wr w1.heap.size 3 v (ints k) ∧ Below w1.heap.size w1 wr) (fun _ _ c _ => nc - (intOf c).toNat)
  case atStart => exact ⟨0, by omega, rfl, rfl, OwnInts.nil _ _ _, Below.refl _ _⟩
  case round =>
    obtain ⟨k, hk, rfl, rfl, hO, hBo⟩ := hrel
    obtain ⟨wo, rfl⟩ : ∃ wo, wo = wr := ⟨_, rfl⟩
    have hso := hBo.size
    obtain ⟨d0, d1, d2, d3, d4⟩ := (hx1.below hBo).g5
    have hxl2 := (hx1.below hBo).lt
    by_cases hlt : k < nc
    · obtain ⟨ao, co, rfl, _⟩ := hO.ints
      have hOr : wo.ownsRow w1.heap.size 3 1 _ (ints k).length ((ints k).map (Value.int .i64)) := hO
      rw [ints_len] at hOr ⊢
      have hl := hOr.lt
      go_wp2_with (at_builtin; refine wpList_append_own2 _ rfl _ _ 22 rfl w1.heap.size 3 i3 (.int .i64 0) 1 8 Try.underlying22 hi3 hz30 hz31 hz32 rfl (by decide) _ _ _ (hOr.alloc _) rfl ⟨_, 0, none⟩ 1 1 [.int .i64 (k : Int)] rfl rfl (cell_one_new _ _ _) (by simp [Value.oneCell']) (by unfold maxLen; omega) (by omega) (by first | omega | (simp; omega)) ?_; intro v' w1 hown' hgrow hfr)
      go_roundw
      case rel =>
        refine ⟨k + 1, by omega, rfl, by go_num, ?_, (hBo.alloc (by omega) _).grown hgrow (by simp; omega) (fun q e => (hl q e).1)⟩
        rw [ints_succ]
        exact OwnInts.snoc (by rw [ints_len]; exact hown')
      case measure => simp [intOf]; omega
    · obtain rfl : k = nc := by omega
      have HLI := Lib.hid (reflines_any g 3 ah ac nh ch k cc wo ((h2.below hB2).below hBo) HV.out (.inr (.inr ⟨rfl, HS.out⟩)))
      clear hO
      go_wp2_with fail
      refine HLI.out.mono ?_
      rintro e w7 ⟨v7, rfl, hO7, hB7⟩
      go_wp2_with fail
      refine bodyPost_ret (v := .tuple #[v7, .int .i64 0]) (by simp [results, Try.results48, go_sem]) rfl ?_
      exact ⟨_, rfl, hO7.mono (by have := hB2.size; have := hBo.size; omega), (hB2.on hBo).on hB7⟩
set_option maxRecDepth 20000 in
set_option maxHeartbeats 2000000 in
theorem rfam_sq (g : Grid) (ah ac : Option Addr) (nh ch nc cc : Nat) (W : World) (h1 : Ints W ah nh ch g.holes) (h2 : Ints W ac nc cc g.cells) (hn : nh ≤ 10000000) (hm : nc ≤ 10000000000) (he : checkErr g = 0) (hs : g.shape = 1) : Calls Try.prog 48 #[.agg #[.int .i64 g.shape, .int .i64 g.w, .int .i64 g.h, .slice ah nh ch, .slice ac nc cc], .int .i64 3] W (RetRowsE W 22 (diagL g) 0) := by
  have ts : (g.shape == 1) = true := by rw [hs]; rfl
  have HS := Lib.hid hs
  clear hs
  have hv := valid_of he
  have hal : Below W.heap.size W (W.alloc (.cells #[.int .i64 g.shape, .int .i64 g.w, .int .i64 g.h, .slice ah nh ch, .slice ac nc cc] 24)) := (Below.refl _ _).alloc (Nat.le_refl _) _
  have hc := refNeighbors_any g ah ac nh ch nc cc _ (h1.below hal) (h2.below hal) hn hm
  have hnb : nbOut g = nbL g := by unfold nbOut; rw [if_pos he]
  rw [he, hnb] at hc
  have HC := Lib.hid hc
  have hx := Box.new W #[.int .i64 g.shape, .int .i64 g.w, .int .i64 g.h, .slice ah nh ch, .slice ac nc cc] 24
  have hnl := h2.len
  have h256 := hv.len
  have HV := Lib.hid hv
  rw [hnl] at h256
  have HNL := Lib.hid hnl
  clear hc hv he hnb hnl
  obtain ⟨i3, hi3, hz30, hz31, hz32⟩ := info_parts info_int
  obtain ⟨i22, hi22, hz220, hz221, hz222⟩ := info_parts info_ints
  go_enter Try.func48, Try.ntmps48
  go_wp2_with fail
  refine HC.out.mono ?_
  rintro e w1 ⟨v1, rfl, hO1, hB1⟩
  have hx1 := hx.below hB1
  have hxl := hx1.lt
  have hB2 := hal.on hB1
  clear hx hB1 hal
  go_wp2_with fail
  go_loopw [8, 9, 10] (fun v8 v c wr => ∃ k : Nat, k ≤ nc ∧ v8 = .slice none 0 0 ∧ c = .int .i64 k ∧ OwnInts wr w1.heap.size 3 v (ints k) ∧ Below w1.heap.size w1 wr) (fun _ _ c _ => nc - (intOf c).toNat)
  case atStart => exact ⟨0, by omega, rfl, rfl, OwnInts.nil _ _ _, Below.refl _ _⟩
  case round =>
    obtain ⟨k, hk, rfl, rfl, hO, hBo⟩ := hrel
    obtain ⟨wo, rfl⟩ : ∃ wo, wo = wr := ⟨_, rfl⟩
    have hso := hBo.size
    obtain ⟨d0, d1, d2, d3, d4⟩ := (hx1.below hBo).g5
    have hxl2 := (hx1.below hBo).lt
    by_cases hlt : k < nc
    · obtain ⟨ao, co, rfl, _⟩ := hO.ints
      have hOr : wo.ownsRow w1.heap.size 3 1 _ (ints k).length ((ints k).map (Value.int .i64)) := hO
      rw [ints_len] at hOr ⊢
      have hl := hOr.lt
      go_wp2_with (at_builtin; refine wpList_append_own2 _ rfl _ _ 22 rfl w1.heap.size 3 i3 (.int .i64 0) 1 8 Try.underlying22 hi3 hz30 hz31 hz32 rfl (by decide) _ _ _ (hOr.alloc _) rfl ⟨_, 0, none⟩ 1 1 [.int .i64 (k : Int)] rfl rfl (cell_one_new _ _ _) (by simp [Value.oneCell']) (by unfold maxLen; omega) (by omega) (by first | omega | (simp; omega)) ?_; intro v' w1 hown' hgrow hfr)
      go_roundw
      case rel =>
        refine ⟨k + 1, by omega, rfl, by go_num, ?_, (hBo.alloc (by omega) _).grown hgrow (by simp; omega) (fun q e => (hl q e).1)⟩
        rw [ints_succ]
        exact OwnInts.snoc (by rw [ints_len]; exact hown')
      case measure => simp [intOf]; omega
    · obtain rfl : k = nc := by omega
      have HLI := Lib.hid (refdiag_any g ah ac nh ch k cc wo ((h2.below hB2).below hBo) HV.out HS.out)
      clear hO
      go_wp2_with fail
      refine HLI.out.mono ?_
      rintro e w7 ⟨v7, rfl, hO7, hB7⟩
      go_wp2_with fail
      refine bodyPost_ret (v := .tuple #[v7, .int .i64 0]) (by simp [results, Try.results48, go_sem]) rfl ?_
      exact ⟨_, rfl, hO7.mono (by have := hB2.size; have := hBo.size; omega), (hB2.on hBo).on hB7⟩

set_option maxRecDepth 20000 in
set_option maxHeartbeats 2000000 in
theorem rfam_cells (g : Grid) (ah ac : Option Addr) (nh ch nc cc : Nat) (W : World) (h1 : Ints W ah nh ch g.holes) (h2 : Ints W ac nc cc g.cells) (hn : nh ≤ 10000000) (hm : nc ≤ 10000000000) (he : checkErr g = 0) : Calls Try.prog 48 #[.agg #[.int .i64 g.shape, .int .i64 g.w, .int .i64 g.h, .slice ah nh ch, .slice ac nc cc], .int .i64 0] W (RetRowsE W 22 (cellsF nc) 0) := by
  have hv := valid_of he
  have hal : Below W.heap.size W (W.alloc (.cells #[.int .i64 g.shape, .int .i64 g.w, .int .i64 g.h, .slice ah nh ch, .slice ac nc cc] 24)) := (Below.refl _ _).alloc (Nat.le_refl _) _
  have hc := refNeighbors_any g ah ac nh ch nc cc _ (h1.below hal) (h2.below hal) hn hm
  have hnb : nbOut g = nbL g := by unfold nbOut; rw [if_pos he]
  rw [he, hnb] at hc
  have HC := Lib.hid hc
  have hx := Box.new W #[.int .i64 g.shape, .int .i64 g.w, .int .i64 g.h, .slice ah nh ch, .slice ac nc cc] 24
  have hnl := h2.len
  have h256 := hv.len
  have HV := Lib.hid hv
  rw [hnl] at h256
  have HNL := Lib.hid hnl
  clear hc hv he hnb hnl
  obtain ⟨i3, hi3, hz30, hz31, hz32⟩ := info_parts info_int
  obtain ⟨i22, hi22, hz220, hz221, hz222⟩ := info_parts info_ints
  go_enter Try.func48, Try.ntmps48
  go_wp2_with fail
  refine HC.out.mono ?_
  rintro e w1 ⟨v1, rfl, hO1, hB1⟩
  have hx1 := hx.below hB1
  have hxl := hx1.lt
  have hB2 := hal.on hB1
  clear hx hB1 hal
  go_wp2_with fail
  go_loopw [8, 9, 10] (fun v8 v9 c wr => ∃ k : Nat, k ≤ nc ∧ c = .int .i64 k ∧ Duo wr w1.heap.size v9 (ints k) v8 (cellsF k) ∧ Below w1.heap.size w1 wr) (fun _ _ c _ => nc - (intOf c).toNat)
  case atStart => exact ⟨0, by omega, rfl, Duo.nil _ _, Below.refl _ _⟩
  case round =>
    obtain ⟨k, hk, rfl, hD, hBo⟩ := hrel
    obtain ⟨wo, rfl⟩ : ∃ wo, wo = wr := ⟨_, rfl⟩
    have hso := hBo.size
    obtain ⟨d0, d1, d2, d3, d4⟩ := (hx1.below hBo).g5
    have hxl2 := (hx1.below hBo).lt
    by_cases hlt : k < nc
    · obtain ⟨a9, c9, rfl, _⟩ := hD.own.ints
      obtain ⟨a8, c8, rfl, _⟩ := hD.out.rows
      have hOr : wo.ownsRow w1.heap.size 3 1 _ (ints k).length ((ints k).map (Value.int .i64)) := hD.own
      rw [ints_len] at hOr hD ⊢
      have hl9 := hOr.lt
      rw [cellsF_len] at hD ⊢
      go_wp2_with (first | (at_builtin; refine wpList_append_own2 _ rfl _ _ 22 rfl w1.heap.size 3 i3 (.int .i64 0) 1 8 Try.underlying22 hi3 hz30 hz31 hz32 rfl (by decide) _ _ _ (hOr.alloc _) rfl ⟨_, 0, none⟩ 1 1 [.int .i64 (k : Int)] rfl rfl (cell_one_new _ _ _) (by simp [Value.oneCell']) (by unfold maxLen; omega) (by omega) (by first | omega | (simp; omega)) ?_; intro va wa howna hgrowa hfra; have hD2 := hD.stepA (ints_len k) howna hgrowa hfra; obtain ⟨hA2, ⟨us, hus, hE1, hE2⟩, hap⟩ := hD2; have hBa := (hBo.alloc (by omega) _).grown hgrowa (by simp; omega) (fun q e => (hl9 q e).1); have hsa := hBa.size; clear hgrowa hfra howna hD hOr) | (rw [cellsF_len] at hus; have hl := hus.lt; (at_builtin; refine wpList_append_own2 _ rfl _ _ 28 rfl _ 22 i22 (.slice none 0 0) 1 24 Try.underlying28 hi22 hz220 hz221 hz222 rfl (by decide) _ _ _ ((hus.alloc _).alloc _) rfl ⟨_, 0, none⟩ 1 1 [(.slice (some ⟨wa.heap.size, 0, none⟩) 1 1)] rfl rfl (cell_two_new _ _ _ _) (by simp [Value.oneCell']) (by unfold maxLen; omega) (by omega) (by first | omega | (simp; omega)) ?_; intro v' w1 hown' hgrow hfr)))
      go_roundw
      case rel =>
        refine ⟨k + 1, by omega, by go_num, ?_, ((hBa.alloc (by omega) _).alloc (by simp; omega) _).grown hgrow (by simp; omega) (fun q e => (hl q e).1)⟩
        rw [cellsF_succ, ints_succ]
        have b1 := ints_lit_fam [(k : Int)] (Box.new wa ([(k : Int)].map (Value.int .i64)).toArray 3) rfl (by simp)
        have hA1 : Below wa.heap.size wa (wa.alloc (.cells ([(k : Int)].map (Value.int .i64)).toArray 3)) := (Below.refl _ _).alloc (Nat.le_refl _) _
        have hA3 : Below (wa.alloc (.cells ([(k : Int)].map (Value.int .i64)).toArray 3)).heap.size (wa.alloc (.cells ([(k : Int)].map (Value.int .i64)).toArray 3)) ((wa.alloc (.cells ([(k : Int)].map (Value.int .i64)).toArray 3)).alloc (.cells #[.slice (some ⟨wa.heap.size, 0, none⟩) 1 1] 22)) := (Below.refl _ _).alloc (Nat.le_refl _) _
        exact Duo.push (hA2.below (hA1.on hA3)) (hE1.mono fun _ _ hu => hu.below (hA1.on hA3)) (hE2.mono fun _ _ hu => hu.below (hA1.on hA3)) hap (cellsF_len k) hown' hgrow hfr (b1.below hA3)
          (fun _ => ⟨fun e => by have := (hl wa.heap.size (by rw [← e]; rfl)).2; omega, fun e => by have := (hA2.lt wa.heap.size (by rw [← e]; rfl)).2; omega⟩)
      case measure => simp [intOf]; omega
    · obtain rfl : k = nc := by omega
      have hO := hD.out
      clear hD
      go_wp2_with fail
      refine bodyPost_ret (v := .tuple #[_, .int .i64 0]) (by simp [results, Try.results48, go_sem]; rfl) rfl ?_
      exact ⟨_, rfl, hO.mono (by have := hB2.size; omega), hB2.on hBo⟩
end Go.Proofs.Ytjiacdihfbbfjaa

/- Contract of ref13.Family: near cells, pairs; joined. -/
namespace Go.Proofs.Ytjiacdihfbbfjaa
open Go.RowKit

set_option maxRecDepth 20000 in
set_option maxHeartbeats 4000000 in
theorem rfam_near (g : Grid) (ah ac : Option Addr) (nh ch nc cc : Nat) (W : World) (h1 : Ints W ah nh ch g.holes) (h2 : Ints W ac nc cc g.cells) (hn : nh ≤ 10000000) (hm : nc ≤ 10000000000) (he : checkErr g = 0) : Calls Try.prog 48 #[.agg #[.int .i64 g.shape, .int .i64 g.w, .int .i64 g.h, .slice ah nh ch, .slice ac nc cc], .int .i64 5] W (RetRowsE W 22 (nearF g nc) 0) := by
  have hv := valid_of he
  have hal : Below W.heap.size W (W.alloc (.cells #[.int .i64 g.shape, .int .i64 g.w, .int .i64 g.h, .slice ah nh ch, .slice ac nc cc] 24)) := (Below.refl _ _).alloc (Nat.le_refl _) _
  have hc := refNeighbors_any g ah ac nh ch nc cc _ (h1.below hal) (h2.below hal) hn hm
  have hnb : nbOut g = nbL g := by unfold nbOut; rw [if_pos he]
  rw [he, hnb] at hc
  have HC := Lib.hid hc
  have hx := Box.new W #[.int .i64 g.shape, .int .i64 g.w, .int .i64 g.h, .slice ah nh ch, .slice ac nc cc] 24
  have hnl := h2.len
  have h256 := hv.len
  have HV := Lib.hid hv
  rw [hnl] at h256
  have HNL := Lib.hid hnl
  clear hc hv he hnb hnl
  obtain ⟨i3, hi3, hz30, hz31, hz32⟩ := info_parts info_int
  obtain ⟨i22, hi22, hz220, hz221, hz222⟩ := info_parts info_ints
  go_enter Try.func48, Try.ntmps48
  go_wp2_with fail
  refine HC.out.mono ?_
  rintro e w1 ⟨v1, rfl, hO1, hB1⟩
  have hx1 := hx.below hB1
  have hxl := hx1.lt
  have hB2 := hal.on hB1
  clear hx hB1 hal
  go_wp2_with fail
  obtain ⟨a1, c1, rfl, hR⟩ := hO1.rows
  have hll : (nbL g).length = nc := by rw [nbL_len, HNL.out]
  rw [hll] at hR ⊢
  have hcp := hR.cap
  have hmx := hR.mx
  unfold maxLen at hmx
  clear hll
  go_loopw [8, 9, 10] (fun v8 v9 c wr => ∃ k : Nat, k ≤ nc ∧ c = .int .i64 k ∧ Duo wr w1.heap.size v9 (ints k) v8 (nearF g k) ∧ Below w1.heap.size w1 wr) (fun _ _ c _ => nc - (intOf c).toNat)
  case atStart => exact ⟨0, by omega, rfl, Duo.nil _ _, Below.refl _ _⟩
  case round =>
    obtain ⟨k, hk, rfl, hD, hBo⟩ := hrel
    obtain ⟨wo, rfl⟩ : ∃ wo, wo = wr := ⟨_, rfl⟩
    have hso := hBo.size
    obtain ⟨d0, d1, d2, d3, d4⟩ := (hx1.below hBo).g5
    have hxl2 := (hx1.below hBo).lt
    by_cases hlt : k < nc
    · obtain ⟨a9, c9, rfl, _⟩ := hD.own.ints
      obtain ⟨a8, c8, rfl, _⟩ := hD.out.rows
      have hOr : wo.ownsRow w1.heap.size 3 1 _ (ints k).length ((ints k).map (Value.int .i64)) := hD.own
      rw [ints_len] at hOr hD ⊢
      have hl9 := hOr.lt
      rw [nearF_len] at hD ⊢
      obtain ⟨b5, o5, ha, hb5⟩ := hR.at' (by omega)
      obtain ⟨ax, nx, cx, e0, hIx⟩ := hR.row b5 o5 ha k hlt
      rw [nbL_get g (by rw [HNL.out]; exact hlt)] at hIx
      subst ha
      have hxl0 := hx1.below hBo
      go_wp2_with (at_builtin; refine wpList_append_own2 _ rfl _ _ 22 rfl w1.heap.size 3 i3 (.int .i64 0) 1 8 Try.underlying22 hi3 hz30 hz31 hz32 rfl (by decide) _ _ _ (hOr.alloc _) rfl ⟨_, 0, none⟩ 1 1 [.int .i64 (k : Int)] rfl rfl (cell_one_new _ _ _) (by simp [Value.oneCell']) (by unfold maxLen; omega) (by omega) (by first | omega | (simp; omega)) ?_; intro va wa howna hgrowa hfra; have hD2 := hD.stepA (ints_len k) howna hgrowa hfra; obtain ⟨hA2, ⟨us, hus, hE1, hE2⟩, hap⟩ := hD2; have hBa := (hBo.alloc (by omega) _).grown hgrowa (by simp; omega) (fun q e => (hl9 q e).1); have hsa := hBa.size; clear hgrowa hfra howna hD hOr)
      have e1 := (hBa.cell (p := ⟨b5, o5 + k, none⟩) hb5).trans e0
      have hIa := hIx.below hBa
      have hb5a : b5 < wa.heap.size := by omega
      rw [nearF_len] at hus
      have hl := hus.lt
      have hxa := hx1.below hBa
      clear d0 d1 d2 d3 d4 e0 hIx
      go_wp2_with fail
      go_loopw [11, 12] (fun v c wr => ∃ b : Nat, b ≤ nc ∧ c = .int .i64 b ∧ OwnInts wr wa.heap.size 3 v (nearR g k b) ∧ Below wa.heap.size wa wr) (fun _ c _ => nc - (intOf c).toNat)
      case atStart => exact ⟨0, by omega, rfl, OwnInts.nil _ _ _, Below.refl _ _⟩
      case round =>
        obtain ⟨b, hb, rfl, hC, hBi⟩ := hrel
        obtain ⟨wi, rfl⟩ : ∃ wi, wi = wr := ⟨_, rfl⟩
        have hsi := hBi.size
        obtain ⟨d0, d1, d2, d3, d4⟩ := (hxa.below hBi).g5
        have hxl3 := (hxa.below hBi).lt
        by_cases hlt2 : b < nc
        · have e2 := (hBi.cell (p := ⟨b5, o5 + k, none⟩) hb5a).trans e1
          have hsu := nearR_succ g k b
          have hrl := nearR_le g k b
          have hin := in13_any ax nx cx _ b wi (hIa.below hBi)
          obtain ⟨a3, c3, rfl, _⟩ := hC.ints
          have hR5 : wi.ownsRow wa.heap.size 3 1 _ (nearR g k b).length ((nearR g k b).map (Value.int .i64)) := hC
          obtain ⟨M, hM⟩ : ∃ M, (nearR g k b).length = M := ⟨_, rfl⟩
          rw [hM] at hR5 hrl hC ⊢
          have HM := Lib.hid hM
          have HSU := Lib.hid hsu
          have hlR := hR5.lt
          have HQ : Hid (∀ bb, inL (nbRow g k g.cells.length) b = bb → Calls Try.prog 72 #[.slice ax nx cx, .int .i64 b] wi fun e w' => e = .returned (.bool bb) ∧ ∃ q, w' = wi.drewN q) := Lib.hid (fun bb hbb => by rw [← hbb]; exact hin)
          clear hM hsu hin
          by_cases hbk : b = k
          · have tb : ((b : Int) == (k : Int)) = true := by rw [hbk]; simp
            have HS1 : Hid (nearR g k (b + 1) = nearR g k b ++ [(b : Int)]) := Lib.hid (by rw [HSU.out, if_pos (.inl hbk)])
            clear hbk
            go_wp2_with (at_builtin; refine wpList_append_own2 _ rfl _ _ 22 rfl wa.heap.size 3 i3 (.int .i64 0) 1 8 Try.underlying22 hi3 hz30 hz31 hz32 rfl (by decide) _ _ _ (hR5.alloc _) rfl ⟨_, 0, none⟩ 1 1 [.int .i64 (b : Int)] rfl rfl (cell_one_new _ _ _) (by simp [Value.oneCell']) (by unfold maxLen; omega) (by omega) (by first | omega | (simp; omega)) ?_; intro v' w1 hown' hgrow hfr)
            go_roundw
            case rel =>
              refine ⟨b + 1, by omega, by go_num, ?_, (hBi.alloc (by omega) _).grown hgrow (by simp; omega) (fun q e => (hlR q e).1)⟩
              rw [HS1.out]
              exact OwnInts.snoc (by rw [HM.out]; exact hown')
            case measure => simp [intOf]; omega
          · have tb : ((b : Int) == (k : Int)) = false := by rw [beq_eq_false_iff_ne]; omega
            cases hinb : inL (nbRow g k g.cells.length) b
            · have HS1 : Hid (nearR g k (b + 1) = nearR g k b) := Lib.hid (by rw [HSU.out, if_neg (by rintro (h | h); exact hbk h; rw [hinb] at h; cases h), List.append_nil])
              have HIN := Lib.hid (HQ.out _ hinb)
              clear hbk hinb
              go_wp2_with fail
              refine HIN.out.mono ?_
              rintro e w7 ⟨rfl, q, rfl⟩
              go_wp2_with fail
              go_roundw
              case rel => exact ⟨b + 1, by omega, by go_num, by rw [HS1.out]; exact hC.drewN q, below_drewN hBi q⟩
              case measure => simp [intOf]; omega
            · have HS1 : Hid (nearR g k (b + 1) = nearR g k b ++ [(b : Int)]) := Lib.hid (by rw [HSU.out, if_pos (.inr hinb)])
              have HIN := Lib.hid (HQ.out _ hinb)
              clear hbk hinb
              go_wp2_with fail
              refine HIN.out.mono ?_
              rintro e w7 ⟨rfl, q, rfl⟩
              have hR6 := ownsRow_drewN hR5 q
              go_wp2_with (at_builtin; refine wpList_append_own2 _ rfl _ _ 22 rfl _ 3 i3 (.int .i64 0) 1 8 Try.underlying22 hi3 hz30 hz31 hz32 rfl (by decide) _ _ _ (hR6.alloc _) rfl ⟨_, 0, none⟩ 1 1 [.int .i64 (b : Int)] rfl rfl (cell_one_new _ _ _) (by simp [Value.oneCell']) (by unfold maxLen; omega) (by omega) (by first | omega | (simp; omega)) ?_; intro v' w1 hown' hgrow hfr)
              go_roundw
              case rel =>
                refine ⟨b + 1, by omega, by go_num, ?_, ((below_drewN hBi q).alloc (by simp; omega) _).grown hgrow (by simp; omega) (fun q e => (hlR q e).1)⟩
                rw [HS1.out]
                exact OwnInts.snoc (by rw [HM.out]; exact hown')
              case measure => simp [intOf]; omega
        · obtain rfl : b = nc := by omega
          have hus2 := ownsRow_below' hus hBi
          have hfr1 : 0 < (nearR g k b).length → _ ≠ _ := fun h => fresh_ne hC hus (by omega) h
          have hfr2 : 0 < (nearR g k b).length → _ ≠ _ := fun h => fresh_ne hC hA2 (by omega) h
          obtain ⟨av, cv, rfl, hIv⟩ := hC.ints
          obtain ⟨M, hM⟩ : ∃ M, (nearR g k b).length = M := ⟨_, rfl⟩
          rw [hM] at hIv hfr1 hfr2 ⊢
          have HFR := Lib.hid (fun h => And.intro (hfr1 h) (hfr2 h))
          have HNE : Hid (nearR g k b = nearRow g k) := Lib.hid (by have := near_eq (g := g) (c := k) (by rw [HNL.out]; exact hlt); rw [HNL.out] at this; exact this)
          have hl2 := hus2.lt
          clear hM hfr1 hfr2 e1
          go_wp2_with (at_builtin; refine wpList_append_own2 _ rfl _ _ 28 rfl _ 22 i22 (.slice none 0 0) 1 24 Try.underlying28 hi22 hz220 hz221 hz222 rfl (by decide) _ _ _ (hus2.alloc _) rfl ⟨_, 0, none⟩ 1 1 [(.slice av M cv)] rfl rfl (cell_one_new _ _ _) (by simp [Value.oneCell']) (by unfold maxLen; omega) (by omega) (by first | omega | (simp; omega)) ?_; intro v' w1 hown' hgrow hfr)
          go_roundw
          case rel =>
            refine ⟨k + 1, by omega, by go_num, ?_, ((hBa.on hBi).alloc (by omega) _).grown hgrow (by simp; omega) (fun q e => (hl2 q e).1)⟩
            rw [nearF_succ, ints_succ, ← HNE.out]
            have hA1 : Below wi.heap.size wi (wi.alloc (.cells #[.slice av M cv] 22)) := (Below.refl _ _).alloc (Nat.le_refl _) _
            exact Duo.push (hA2.below (hBi.on hA1)) (hE1.mono fun _ _ hu => hu.below (hBi.on hA1)) (hE2.mono fun _ _ hu => hu.below (hBi.on hA1)) hap (nearF_len g k) hown' hgrow hfr (hIv.below hA1) HFR.out
          case measure => simp [intOf]; omega
    · obtain rfl : k = nc := by omega
      have hO := hD.out
      clear hD
      go_wp2_with fail
      refine bodyPost_ret (v := .tuple #[_, .int .i64 0]) (by simp [results, Try.results48, go_sem]; rfl) rfl ?_
      exact ⟨_, rfl, hO.mono (by have := hB2.size; omega), hB2.on hBo⟩

set_option maxRecDepth 20000 in
set_option maxHeartbeats 4000000 in
theorem rfam_pairs (g : Grid) (ah ac : Option Addr) (nh ch nc cc : Nat) (W : World) (h1 : Ints W ah nh ch g.holes) (h2 : Ints W ac nc cc g.cells) (hn : nh ≤ 10000000) (hm : nc ≤ 10000000000) (he : checkErr g = 0) : Calls Try.prog 48 #[.agg #[.int .i64 g.shape, .int .i64 g.w, .int .i64 g.h, .slice ah nh ch, .slice ac nc cc], .int .i64 6] W (RetRowsE W 22 (pairsF g nc) 0) := by
  have hv := valid_of he
  have hal : Below W.heap.size W (W.alloc (.cells #[.int .i64 g.shape, .int .i64 g.w, .int .i64 g.h, .slice ah nh ch, .slice ac nc cc] 24)) := (Below.refl _ _).alloc (Nat.le_refl _) _
  have hc := refNeighbors_any g ah ac nh ch nc cc _ (h1.below hal) (h2.below hal) hn hm
  have hnb : nbOut g = nbL g := by unfold nbOut; rw [if_pos he]
  rw [he, hnb] at hc
  have HC := Lib.hid hc
  have hx := Box.new W #[.int .i64 g.shape, .int .i64 g.w, .int .i64 g.h, .slice ah nh ch, .slice ac nc cc] 24
  have hnl := h2.len
  have h256 := hv.len
  have HV := Lib.hid hv
  rw [hnl] at h256
  have HNL := Lib.hid hnl
  clear hc hv he hnb hnl
  obtain ⟨i3, hi3, hz30, hz31, hz32⟩ := info_parts info_int
  obtain ⟨i22, hi22, hz220, hz221, hz222⟩ := info_parts info_ints
  go_enter Try.func48, Try.ntmps48
  go_wp2_with fail
  refine HC.out.mono ?_
  rintro e w1 ⟨v1, rfl, hO1, hB1⟩
  have hx1 := hx.below hB1
  have hxl := hx1.lt
  have hB2 := hal.on hB1
  clear hx hB1 hal
  go_wp2_with fail
  obtain ⟨a1, c1, rfl, hR⟩ := hO1.rows
  have hll : (nbL g).length = nc := by rw [nbL_len, HNL.out]
  rw [hll] at hR ⊢
  have hcp := hR.cap
  have hmx := hR.mx
  unfold maxLen at hmx
  clear hll
  go_loopw [8, 9, 10] (fun v8 v9 c wr => ∃ k : Nat, k ≤ nc ∧ c = .int .i64 k ∧ Duo wr w1.heap.size v9 (ints k) v8 (pairsF g k) ∧ Below w1.heap.size w1 wr) (fun _ _ c _ => nc - (intOf c).toNat)
  case atStart => exact ⟨0, by omega, rfl, Duo.nil _ _, Below.refl _ _⟩
  case round =>
    obtain ⟨k, hk, rfl, hD, hBo⟩ := hrel
    obtain ⟨wo, rfl⟩ : ∃ wo, wo = wr := ⟨_, rfl⟩
    have hso := hBo.size
    obtain ⟨d0, d1, d2, d3, d4⟩ := (hx1.below hBo).g5
    have hxl2 := (hx1.below hBo).lt
    by_cases hlt : k < nc
    · obtain ⟨a9, c9, rfl, _⟩ := hD.own.ints
      obtain ⟨a8, c8, rfl, _⟩ := hD.out.rows
      have hOr : wo.ownsRow w1.heap.size 3 1 _ (ints k).length ((ints k).map (Value.int .i64)) := hD.own
      rw [ints_len] at hOr hD ⊢
      have hl9 := hOr.lt
      obtain ⟨b5, o5, ha, hb5⟩ := hR.at' (by omega)
      obtain ⟨ax, nx, cx, e0, hIx⟩ := hR.row b5 o5 ha k hlt
      rw [nbL_get g (by rw [HNL.out]; exact hlt)] at hIx
      subst ha
      have hpl := pairsF_len g k
      have hpk : k * g.cells.length ≤ 256 * 256 := Nat.mul_le_mul (by omega) (by rw [HNL.out]; exact h256)
      have HPL : Hid ((pairsF g k).length ≤ 256 * 256) := Lib.hid (Nat.le_trans hpl hpk)
      clear hpl hpk
      obtain ⟨K8, hK8⟩ : ∃ K8, (pairsF g k).length = K8 := ⟨_, rfl⟩
      rw [hK8] at hD ⊢
      have HK8 := Lib.hid hK8
      clear hK8
      go_wp2_with (at_builtin; refine wpList_append_own2 _ rfl _ _ 22 rfl w1.heap.size 3 i3 (.int .i64 0) 1 8 Try.underlying22 hi3 hz30 hz31 hz32 rfl (by decide) _ _ _ (hOr.alloc _) rfl ⟨_, 0, none⟩ 1 1 [.int .i64 (k : Int)] rfl rfl (cell_one_new _ _ _) (by simp [Value.oneCell']) (by unfold maxLen; omega) (by omega) (by first | omega | (simp; omega)) ?_; intro va wa howna hgrowa hfra; have hD2 := hD.stepA (ints_len k) howna hgrowa hfra; obtain ⟨hA2, ⟨us, hus, hE1, hE2⟩, hap⟩ := hD2; have hBa := (hBo.alloc (by omega) _).grown hgrowa (by simp; omega) (fun q e => (hl9 q e).1); have hsa := hBa.size; clear hgrowa hfra howna hD hOr)
      have e1 := (hBa.cell (p := ⟨b5, o5 + k, none⟩) hb5).trans e0
      have hxl2 := hIx.len
      have hcx := hIx.cap
      have hmx2 := hIx.mx
      unfold maxLen at hmx2
      have hnx : nx ≤ 256 := by rw [← hxl2]; have := nbRow_le g k g.cells.length; rw [HNL.out] at this; rw [HNL.out]; omega
      have HXL := Lib.hid hxl2
      have hD3 : Duo wa w1.heap.size va (ints k ++ [(k : Int)]) (.slice a8 K8 c8) (pairsF g k) := ⟨hA2, ⟨us, hus, hE1, hE2⟩, hap⟩
      have E0 := Lib.hid e0
      clear d0 d1 d2 d3 d4 e0 hxl2 hus hE1 hE2 hap
      go_wp2_with fail
      go_loopw [8, 13] (fun v c wr => ∃ j : Nat, j ≤ nx ∧ c = .int .i64 j ∧ Duo wr w1.heap.size va (ints k ++ [(k : Int)]) v (pairsF g k ++ pairRow ((nbRow g k g.cells.length).take j) k) ∧ Below w1.heap.size w1 wr) (fun _ c _ => nx - (intOf c).toNat)
      case atStart => exact ⟨0, by omega, rfl, by simpa [pairRow] using hD3, hBa⟩
      case round =>
        clear hD3
        obtain ⟨j, hj, rfl, hD, hBi⟩ := hrel
        obtain ⟨wi, rfl⟩ : ∃ wi, wi = wr := ⟨_, rfl⟩
        have hsi := hBi.size
        have e2 := (hBi.cell (p := ⟨b5, o5 + k, none⟩) hb5).trans E0.out
        by_cases hlt2 : j < nx
        · obtain ⟨b6, o6, hax, hb6⟩ := hIx.at' (by omega)
          have e3 := (hBi.cell (p := ⟨b6, o6 + j, none⟩) hb6).trans (hIx.cell b6 o6 hax j hlt2)
          subst hax
          have HT := Lib.hid (pairRow_take (nbRow g k g.cells.length) k (j := j) (by rw [HXL.out]; exact hlt2))
          obtain ⟨b, hb⟩ : ∃ b, (nbRow g k g.cells.length)[j]?.getD 0 = b := ⟨_, rfl⟩
          rw [hb] at e3 HT
          clear hb e1
          by_cases hbk : (k : Int) < b
          · have HT2 := HT.out
            rw [if_pos hbk] at HT2
            have HT3 := Lib.hid HT2
            have tk : decide ((k : Int) < b) = true := by simpa using hbk
            clear HT2 HT hbk
            obtain ⟨a0, c0, rfl, _⟩ := hD.out.rows
            obtain ⟨hA4, ⟨us, hus, hE1, hE2⟩, hap⟩ := hD
            obtain ⟨L, hL⟩ : ∃ L, (pairsF g k ++ pairRow ((nbRow g k g.cells.length).take j) k).length = L := ⟨_, rfl⟩
            have hLb : L ≤ 100000 := by
              rw [← hL, List.length_append]
              have h1 := pairRow_len ((nbRow g k g.cells.length).take j) k
              rw [List.length_take] at h1
              have h2 := HPL.out
              omega
            rw [hL] at hus hE1 hap ⊢
            have HL := Lib.hid hL
            have hl := hus.lt
            clear hL
            go_wp2_with (at_builtin; refine wpList_append_own2 _ rfl _ _ 28 rfl w1.heap.size 22 i22 (.slice none 0 0) 1 24 Try.underlying28 hi22 hz220 hz221 hz222 rfl (by decide) _ _ _ ((hus.alloc _).alloc _) rfl ⟨_, 0, none⟩ 1 1 [(.slice (some ⟨wi.heap.size, 0, none⟩) 2 2)] rfl rfl (cell_two_new _ _ _ _) (by simp [Value.oneCell']) (by unfold maxLen; omega) (by omega) (by first | omega | (simp; omega)) ?_; intro v' w1 hown' hgrow hfr)
            go_roundw
            case rel =>
              refine ⟨j + 1, by omega, by go_num, ?_, ((hBi.alloc (by omega) _).alloc (by simp; omega) _).grown hgrow (by simp; omega) (fun q e => (hl q e).1)⟩
              rw [HT3.out, ← List.append_assoc]
              have b1 := ints_lit_fam [(k : Int), b] (Box.new wi ([(k : Int), b].map (Value.int .i64)).toArray 3) rfl (by simp)
              have hA1 : Below wi.heap.size wi (wi.alloc (.cells ([(k : Int), b].map (Value.int .i64)).toArray 3)) := (Below.refl _ _).alloc (Nat.le_refl _) _
              have hA3 : Below (wi.alloc (.cells ([(k : Int), b].map (Value.int .i64)).toArray 3)).heap.size (wi.alloc (.cells ([(k : Int), b].map (Value.int .i64)).toArray 3)) ((wi.alloc (.cells ([(k : Int), b].map (Value.int .i64)).toArray 3)).alloc (.cells #[.slice (some ⟨wi.heap.size, 0, none⟩) 2 2] 22)) := (Below.refl _ _).alloc (Nat.le_refl _) _
              exact Duo.push (hA4.below (hA1.on hA3)) (hE1.mono fun _ _ hu => hu.below (hA1.on hA3)) (hE2.mono fun _ _ hu => hu.below (hA1.on hA3)) hap HL.out hown' hgrow hfr (b1.below hA3)
                  (fun _ => ⟨fun e => by have := (hl wi.heap.size (by rw [← e]; rfl)).2; omega, fun e => by have := (hA4.lt wi.heap.size (by rw [← e]; rfl)).2; omega⟩)
            case measure => simp [intOf]; omega
          · have HT2 := HT.out
            rw [if_neg hbk] at HT2
            have HT3 := Lib.hid HT2
            have tk : decide ((k : Int) < b) = false := by simpa using hbk
            clear HT2 HT hbk
            go_wp2_with fail
            go_roundw
            case rel => exact ⟨j + 1, by omega, by go_num, by rw [HT3.out, List.append_nil]; exact hD, hBi⟩
            case measure => simp [intOf]; omega
        · obtain rfl : j = nx := by omega
          clear e1
          go_wp2_with fail
          go_roundw
          case rel =>
            refine ⟨k + 1, by omega, by go_num, ?_, hBi⟩
            rw [pairsF_succ, ints_succ]
            rw [List.take_of_length_le (by rw [HXL.out]; omega)] at hD
            exact hD
          case measure => simp [intOf]; omega
    · obtain rfl : k = nc := by omega
      have hO := hD.out
      clear hD
      go_wp2_with fail
      refine bodyPost_ret (v := .tuple #[_, .int .i64 0]) (by simp [results, Try.results48, go_sem]; rfl) rfl ?_
      exact ⟨_, rfl, hO.mono (by have := hB2.size; omega), hB2.on hBo⟩

set_option maxRecDepth 20000 in
set_option maxHeartbeats 2000000 in
theorem rfam_bad (f : Int) (g : Grid) (ah ac : Option Addr) (nh ch nc cc : Nat) (W : World) (h1 : Ints W ah nh ch g.holes) (h2 : Ints W ac nc cc g.cells) (hn : nh ≤ 10000000) (hm : nc ≤ 10000000000) (he : checkErr g = 130) : Calls Try.prog 48 #[.agg #[.int .i64 g.shape, .int .i64 g.w, .int .i64 g.h, .slice ah nh ch, .slice ac nc cc], .int .i64 f] W (RetRowsE W 22 [] 130) := by
  have hal : Below W.heap.size W (W.alloc (.cells #[.int .i64 g.shape, .int .i64 g.w, .int .i64 g.h, .slice ah nh ch, .slice ac nc cc] 24)) := (Below.refl _ _).alloc (Nat.le_refl _) _
  have hc := refNeighbors_any g ah ac nh ch nc cc _ (h1.below hal) (h2.below hal) hn hm
  rw [he] at hc
  have HC := Lib.hid hc
  clear hc he
  go_enter Try.func48, Try.ntmps48
  go_wp2_with fail
  refine HC.out.mono ?_
  rintro e w1 ⟨v1, rfl, hO1, hB1⟩
  go_wp2_with fail
  refine bodyPost_ret (v := .tuple #[.slice none 0 0, .int .i64 130]) (by simp [results, Try.results48, go_sem]) rfl ?_
  exact ⟨_, rfl, OwnRows.nil _ _ _, hal.on hB1⟩
set_option maxRecDepth 20000 in
set_option maxHeartbeats 2000000 in
theorem rfam_none (f : Int) (g : Grid) (ah ac : Option Addr) (nh ch nc cc : Nat) (W : World) (h1 : Ints W ah nh ch g.holes) (h2 : Ints W ac nc cc g.cells) (hn : nh ≤ 10000000) (hm : nc ≤ 10000000000) (he : checkErr g = 0) (hf : f < 0 ∨ 7 < f) : Calls Try.prog 48 #[.agg #[.int .i64 g.shape, .int .i64 g.w, .int .i64 g.h, .slice ah nh ch, .slice ac nc cc], .int .i64 f] W (RetRowsE W 22 [] 1) := by
  have t0 : (decide (f < 0) = true) ∨ (decide (f < 0) = false ∧ decide (7 < f) = true) := by simp; omega
  clear hf
  rcases t0 with t0 | ⟨t0, t1⟩
  all_goals
    have hv := valid_of he
    have hal : Below W.heap.size W (W.alloc (.cells #[.int .i64 g.shape, .int .i64 g.w, .int .i64 g.h, .slice ah nh ch, .slice ac nc cc] 24)) := (Below.refl _ _).alloc (Nat.le_refl _) _
    have hc := refNeighbors_any g ah ac nh ch nc cc _ (h1.below hal) (h2.below hal) hn hm
    have hnb : nbOut g = nbL g := by unfold nbOut; rw [if_pos he]
    rw [he, hnb] at hc
    have HC := Lib.hid hc
    have hx := Box.new W #[.int .i64 g.shape, .int .i64 g.w, .int .i64 g.h, .slice ah nh ch, .slice ac nc cc] 24
    have hnl := h2.len
    have h256 := hv.len
    have HV := Lib.hid hv
    rw [hnl] at h256
    have HNL := Lib.hid hnl
    clear hc hv he hnb hnl
    obtain ⟨i3, hi3, hz30, hz31, hz32⟩ := info_parts info_int
    obtain ⟨i22, hi22, hz220, hz221, hz222⟩ := info_parts info_ints
    go_enter Try.func48, Try.ntmps48
    go_wp2_with fail
    refine HC.out.mono ?_
    rintro e w1 ⟨v1, rfl, hO1, hB1⟩
    have hx1 := hx.below hB1
    have hxl := hx1.lt
    have hB2 := hal.on hB1
    clear hx hB1 hal
    go_wp2_with fail
    refine bodyPost_ret (v := .tuple #[.slice none 0 0, .int .i64 1]) (by simp [results, Try.results48, go_sem]) rfl ?_
    exact ⟨_, rfl, OwnRows.nil _ _ _, hB2⟩
theorem rfam_any (f : Int) (g : Grid) (ah ac : Option Addr) (nh ch nc cc : Nat) (W : World) (h1 : Ints W ah nh ch g.holes) (h2 : Ints W ac nc cc g.cells) (hn : nh ≤ 10000000) (hm : nc ≤ 10000000000) :
    Calls Try.prog 48 #[.agg #[.int .i64 g.shape, .int .i64 g.w, .int .i64 g.h, .slice ah nh ch, .slice ac nc cc], .int .i64 f] W (RetRowsE W 22 (famOut g f) (famErr g f)) := by
  unfold famOut famErr
  have hnl := h2.len
  rcases checkErr_cases g with ⟨he, hv⟩ | ⟨he, _⟩
  · rw [if_pos he, if_pos he]
    by_cases hf : 0 ≤ f ∧ f ≤ 7
    · rw [if_pos hf]
      have h8 : f = 0 ∨ f = 1 ∨ f = 2 ∨ f = 3 ∨ f = 4 ∨ f = 5 ∨ f = 6 ∨ f = 7 := by omega
      rcases h8 with rfl | rfl | rfl | rfl | rfl | rfl | rfl | rfl
      · have := rfam_cells g ah ac nh ch nc cc W h1 h2 hn hm he
        simpa [famL, hnl] using this
      · have := rfam_rows g ah ac nh ch nc cc W h1 h2 hn hm he
        rw [refLines_eq hv (.inl rfl)] at this
        exact this
      · have := rfam_cols g ah ac nh ch nc cc W h1 h2 hn hm he
        rw [refLines_eq hv (.inr (.inl rfl))] at this
        exact this
      · by_cases hs : g.shape = 2
        · have := rfam_hex g ah ac nh ch nc cc W h1 h2 hn hm he hs
          rw [refLines_eq hv (.inr (.inr ⟨rfl, hs⟩))] at this
          exact this
        · have := rfam_sq g ah ac nh ch nc cc W h1 h2 hn hm he (hv.dims.1.resolve_right hs)
          simpa [famL, hnl, hs] using this
      · have := rfam_around g ah ac nh ch nc cc W h1 h2 hn hm he
        simpa [famL, hnl] using this
      · have := rfam_near g ah ac nh ch nc cc W h1 h2 hn hm he
        simpa [famL, hnl] using this
      · have := rfam_pairs g ah ac nh ch nc cc W h1 h2 hn hm he
        simpa [famL, hnl] using this
      · have := rfam_all g ah ac nh ch nc cc W h1 h2 hn hm he
        simpa [famL, hnl] using this
    · rw [if_neg hf]
      have e : famL g f = [] := by
        unfold famL
        rw [if_neg (by omega), if_neg (by omega), if_neg (by omega), if_neg (by omega), if_neg (by omega), if_neg (by omega), if_neg (by omega), if_neg (by omega)]
      rw [e]
      exact rfam_none f g ah ac nh ch nc cc W h1 h2 hn hm he (by omega)
  · rw [if_neg (by omega), if_neg (by omega)]
    exact rfam_bad f g ah ac nh ch nc cc W h1 h2 hn hm he
end Go.Proofs.Ytjiacdihfbbfjaa

