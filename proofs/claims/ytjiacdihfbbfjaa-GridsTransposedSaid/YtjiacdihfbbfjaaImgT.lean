/- Contract of the closure of law13.GridsTransposed. -/
import Derived.Test.YtjiacdihfbbfjaaFamOk
import Derived.Test.YtjiacdihfbbfjaaRefX
import Derived.WalkKit
import Derived.WalkSpells
import Derived.WalkLawsBesides
import Derived.Deep.LoopGhost
import Derived.Deep.QuietTactic
import Derived.BigQuiet
import Derived.StillTailTactics
import Derived.Lib.Hide
import Derived.Outline
import Derived.Lib.QuietBelow
namespace Go.Proofs.Ytjiacdihfbbfjaa
open Go.RowKit

def imgV (tv l : List Int) : List Int := l.map fun c => tv[c.toNat]?.getD 0
theorem imgV_take (tv l : List Int) {k : Nat} (h : k < l.length) : imgV tv (l.take (k + 1)) = imgV tv (l.take k) ++ [tv[(l[k]?.getD 0).toNat]?.getD 0] := by unfold imgV; rw [take_getD l k h]; simp
theorem imgV_len (tv l : List Int) : (imgV tv l).length = l.length := by unfold imgV; simp
set_option maxRecDepth 20000 in
set_option maxHeartbeats 4000000 in
theorem imageT_any (a : Option Addr) (m c p : Nat) (ll : List (List Int)) (at' : Option Addr) (n ct : Nat) (tv : List Int) (W : World) (h : Rows W a m c ll) (hp : W.cell? ⟨p, 0, none⟩ = some (.slice at' n ct)) (ht : Ints W at' n ct tv) (hok : ∀ l ∈ ll, okL n l) (hn : n ≤ 256) (hm : m ≤ 70000) :
    Calls Try.prog 55 #[.slice a m c, .pointer (some ⟨p, 0, none⟩)] W fun e w' => ∃ v, e = .returned v ∧ OwnRows w' W.heap.size 22 v (ll.map (imgV tv)) ∧ Below W.heap.size W w' := by
  have hcm := h.cap
  have hmm := h.mx
  unfold maxLen at hmm
  have hpl : p < W.heap.size := World.block_lt_of_cell? W _ hp
  have hct := ht.cap
  have hmt := ht.mx
  unfold maxLen at hmt
  have HOK := Lib.hid hok
  have HM := Lib.hid h.len
  have HP := Lib.hid hp
  clear hok hp
  obtain ⟨i3, hi3, hz30, hz31, hz32⟩ := info_parts info_int
  obtain ⟨i22, hi22, hz220, hz221, hz222⟩ := info_parts info_ints
  go_enter Try.func55, Try.ntmps55
  go_wp2_with fail
  go_loopw [3, 11] (fun v c wr => ∃ k : Nat, k ≤ m ∧ c = .int .i64 k ∧ OwnRows wr W.heap.size 22 v ((ll.take k).map (imgV tv)) ∧ Below W.heap.size W wr) (fun _ c _ => m - (intOf c).toNat)
  case atStart => exact ⟨0, by omega, rfl, OwnRows.nil _ _ _, Below.refl _ _⟩
  case round =>
    obtain ⟨k, hk, rfl, hO, hBo⟩ := hrel
    obtain ⟨wo, rfl⟩ : ∃ wo, wo = wr := ⟨_, rfl⟩
    have hso := hBo.size
    by_cases hlt : k < m
    · obtain ⟨a7, c7, rfl, _⟩ := hO.rows
      have hlen : ((ll.take k).map (imgV tv)).length = k := by rw [List.length_map, List.length_take, HM.out]; omega
      rw [hlen] at hO ⊢
      obtain ⟨b5, o5, ha, hb5⟩ := h.at' (by omega)
      obtain ⟨ax, nx, cx, e0, hIx⟩ := h.row b5 o5 ha k hlt
      subst ha
      have e1 := (hBo.cell (p := ⟨b5, o5 + k, none⟩) hb5).trans e0
      obtain ⟨x, hx⟩ : ∃ x, ll[k]?.getD [] = x := ⟨_, rfl⟩
      have hxm : x ∈ ll := by rw [← hx, List.getElem?_eq_getElem (by rw [HM.out]; exact hlt)]; exact List.getElem_mem _
      have hxo2 := HOK.out x hxm
      rw [hx] at hIx
      have hnx : nx ≤ 256 := by rw [← hIx.len]; have := hxo2.len; omega
      have hcx := hIx.cap
      have hmx2 := hIx.mx
      unfold maxLen at hmx2
      have HXL := Lib.hid hIx.len
      have HX := Lib.hid hx
      have HXO := Lib.hid hxo2
      have HLE := Lib.hid hlen
      have hIo := hIx.below hBo
      have hto := ht.below hBo
      clear e0 hlen hx hxo2 hxm
      go_wp2_with fail
      go_loopw [3, 6, 17] (fun v3 v c wr => ∃ j : Nat, j ≤ nx ∧ v3 = .slice a7 k c7 ∧ c = .int .i64 j ∧ OwnInts wr wo.heap.size 3 v (imgV tv (x.take j)) ∧ Below wo.heap.size wo wr) (fun _ _ c _ => nx - (intOf c).toNat)
      case atStart => exact ⟨0, by omega, rfl, rfl, OwnInts.nil _ _ _, Below.refl _ _⟩
      case round =>
        obtain ⟨j, hj, rfl, rfl, hC, hBi⟩ := hrel
        obtain ⟨wi, rfl⟩ : ∃ wi, wi = wr := ⟨_, rfl⟩
        have hsi := hBi.size
        have hpi := ((hBo.on hBi).cell (p := ⟨p, 0, none⟩) hpl).trans HP.out
        by_cases hlt2 : j < nx
        · have hIi := hIo.below hBi
          obtain ⟨b6, o6, hax, hb6⟩ := hIi.at' (by omega)
          have e2 := hIi.cell b6 o6 hax j hlt2
          subst hax
          have hjx : j < x.length := by rw [HXL.out]; exact hlt2
          have hPT := imgV_take tv x hjx
          have hcb := HXO.out.2 _ (getD_mem x j hjx)
          obtain ⟨c, hc⟩ : ∃ c, x[j]?.getD 0 = c := ⟨_, rfl⟩
          rw [hc] at e2 hPT hcb
          obtain ⟨hc0, hc1⟩ := hcb
          have hki := hto.below hBi
          obtain ⟨b7, o7, hay, hb7⟩ := hki.at' (by omega)
          have e3 := hki.cell b7 o7 hay c.toNat (by omega)
          subst hay
          obtain ⟨y, hy⟩ : ∃ y, tv[c.toNat]?.getD 0 = y := ⟨_, rfl⟩
          rw [hy] at e3 hPT
          have tc0 : decide (c < 0) = false := by simp; omega
          have tc1 : decide ((n : Int) ≤ c) = false := by simp; omega
          obtain ⟨a11, c11, rfl, _⟩ := hC.ints
          have hR5 : wi.ownsRow wo.heap.size 3 1 _ (imgV tv (x.take j)).length ((imgV tv (x.take j)).map (Value.int .i64)) := hC
          have hlj : (imgV tv (x.take j)).length = j := by rw [imgV_len, List.length_take]; omega
          rw [hlj] at hR5 ⊢
          have hl5 := hR5.lt
          have HLJ := Lib.hid hlj
          have HPT := Lib.hid hPT
          clear hlj hPT hc hy
          go_wp2_with (at_builtin; refine wpList_append_own2 _ rfl _ _ 22 rfl wo.heap.size 3 i3 (.int .i64 0) 1 8 Try.underlying22 hi3 hz30 hz31 hz32 rfl (by decide) _ _ _ (hR5.alloc _) rfl ⟨_, 0, none⟩ 1 1 [.int .i64 y] rfl rfl (cell_one_new _ _ _) (by simp [Value.oneCell']) (by unfold maxLen; omega) (by omega) (by first | omega | (simp; omega)) ?_; intro v' w1 hown' hgrow hfr)
          go_roundw
          case rel =>
            refine ⟨j + 1, by omega, rfl, by go_num, ?_, (hBi.alloc (by omega) _).grown hgrow (by simp; omega) (fun q e => (hl5 q e).1)⟩
            rw [HPT.out]
            exact OwnInts.snoc (by rw [HLJ.out]; exact hown')
          case measure => simp [intOf]; omega
        · obtain rfl : j = nx := by omega
          rw [List.take_of_length_le (by rw [HXL.out]; omega)] at hC
          obtain ⟨us, hus, hE⟩ := hO
          have hus2 := ownsRow_below' hus hBi
          rw [HLE.out] at hus hus2
          have hfr1 : 0 < (imgV tv x).length → _ ≠ _ := fun h => fresh_ne hC hus (by omega) h
          obtain ⟨av, cv, rfl, hIv⟩ := hC.ints
          have hlx : (imgV tv x).length = j := by rw [imgV_len, HXL.out]
          rw [hlx] at hIv hfr1 ⊢
          have HFR := Lib.hid hfr1
          clear hfr1 hlx
          go_wp2_with (at_builtin; refine wpList_append_own2 _ rfl _ _ 28 rfl _ 22 i22 (.slice none 0 0) 1 24 Try.underlying28 hi22 hz220 hz221 hz222 rfl (by decide) _ _ _ (hus2.alloc _) rfl ⟨_, 0, none⟩ 1 1 [(.slice av j cv)] rfl rfl (cell_one_new _ _ _) (by simp [Value.oneCell']) (by unfold maxLen; omega) (by omega) (by first | omega | (simp; omega)) ?_; intro v' w1 hown' hgrow hfr)
          go_roundw
          case rel =>
            refine ⟨k + 1, by omega, by go_num, ?_, ((hBo.on hBi).alloc (by omega) _).grown hgrow (by simp; omega) (fun q e => (hus2.lt q e).1)⟩
            rw [take_rows (by rw [HM.out]; exact hlt), HX.out, List.map_append, List.map_cons, List.map_nil]
            exact OwnRows.push (hE.mono fun _ _ hu => (hu.below hBi).below ((Below.refl _ _).alloc (Nat.le_refl _) _)) (by rw [HLE.out]; exact hown') hgrow hfr (hIv.below ((Below.refl _ _).alloc (Nat.le_refl _) _)) HFR.out
          case measure => simp [intOf]; omega
    · obtain rfl : k = m := by omega
      rw [List.take_of_length_le (by rw [HM.out]; omega)] at hO
      go_wp2_with fail
      go_ret
      exact ⟨_, rfl, hO, hBo⟩
end Go.Proofs.Ytjiacdihfbbfjaa

