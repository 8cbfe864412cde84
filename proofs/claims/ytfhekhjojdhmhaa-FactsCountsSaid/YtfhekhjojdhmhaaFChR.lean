/- Contract of ref.Changed. -/
import Derived.Test.YtfhekhjojdhmhaaFChM
import Derived.WalkKit
import Derived.WalkSpells
import Derived.WalkLawsBesides
import Derived.Deep.LoopGhost
import Derived.Deep.QuietTactic
import Derived.BigQuiet
import Derived.StillTailTactics
import Derived.Lib.Hide
import Derived.Outline
import Derived.Lib.QuietBelow
namespace Go.Proofs.Ytfhekhjojdhmhaa
open Go.RowKit

theorem chg_step (l : List Fact) (before after : Int) {ks : List Key} {j : Nat} {k : Key} (hk : ks[j]? = some k) : (ks.take (j + 1)).flatMap (difOf l before after) = (ks.take j).flatMap (difOf l before after) ++ difOf l before after k := by
  rw [List.take_add_one, hk, List.flatMap_append]; simp

set_option maxRecDepth 20000 in
set_option maxHeartbeats 4000000 in
theorem rchanged_any (a0 : Option Addr) (n0 c0 : Nat) (l : List Fact) (before after : Int) (w : World) (h0 : SL encF 8 w a0 n0 c0 l) (hn : n0 ≤ 1000000) :
    Calls Try.prog 25 #[.slice a0 n0 c0, .int .i64 before, .int .i64 after] w (RetDL w 57 (changedL l before after)) := by
  have hl0 := Lib.hid h0.len
  obtain ⟨i2s, his, hzs0, hzs1, hzs2⟩ := info2s
  obtain ⟨i4d, hid, hzd0, hzd1, hzd2⟩ := info4d
  have hal : Below w.heap.size w (w.alloc (.cells #[] 57)) := (Below.refl _ _).alloc (Nat.le_refl _) _
  have hO0 := OwnSL.made0 encD 4 w 57 w.heap.size (Nat.le_refl _)
  obtain ⟨wk, hwk⟩ : ∃ wk, w.alloc (.cells #[] 57) = wk := ⟨_, rfl⟩
  have HWK := Lib.hid hwk
  have hsk : wk.heap.size = w.heap.size + 1 := by rw [← hwk]; simp
  rw [hwk] at hal hO0
  clear hwk
  have HKS := Lib.hid (rkeys_any a0 n0 c0 l wk (h0.below hal) hn)
  have HKL : Hid ((keysL l).length ≤ n0) := Lib.hid (by have := keysL_len l; rw [hl0.out] at this; exact this)
  have HCH : Hid (changedL l before after = (keysL l).flatMap (difOf l before after)) := Lib.hid rfl
  obtain ⟨ks, hks⟩ : ∃ ks, keysL l = ks := ⟨_, rfl⟩
  rw [hks] at HKS HKL HCH
  clear hks
  go_enter Try.func25, Try.ntmps25
  go_wp2_with (go_at_call 43; rw [HWK.out]; refine HKS.out.mono ?_; rintro e w1 ⟨vk, rfl, hOk, hB1⟩; obtain ⟨ak, ck, rfl, hSk⟩ := hOk.sl encK_len)
  obtain ⟨nk, hnk⟩ : ∃ nk, ks.length = nk := ⟨_, rfl⟩
  have HNK := Lib.hid hnk
  rw [hnk] at hSk ⊢
  have hkn := HKL.out
  rw [hnk] at hkn
  have hB1w := hal.on hB1
  have hO1 := hO0.below hB1
  have hkb : 0 < nk → ∀ q, (Value.slice ak nk ck).ownBlock = some q → wk.heap.size ≤ q := fun _ q e => (hOk.lt q (by rw [hnk]; exact e)).1
  have HKB := Lib.hid hkb
  have hkc := hSk.cap
  have hkm := hSk.mx
  unfold maxLen at hkm
  clear hOk hnk hO0 hB1 hkb
  go_loopw [7, 9] (fun v i wr => ∃ (j : Nat) (us : List (Key × Value)), i = .int .i64 j ∧ j ≤ nk ∧ us.length ≤ j ∧ OwnSL encD 4 wr w.heap.size 57 v us ∧ DEl2 wr v.ownBlock us ((ks.take j).flatMap (difOf l before after)) ∧ SL encK 3 wr ak nk ck ks ∧ Hid (0 < nk → (Value.slice ak nk ck).ownBlock ≠ v.ownBlock) ∧ Below w.heap.size w wr) (fun _ i _ => nk - (intOf i).toNat)
  case atStart =>
    refine ⟨0, [], rfl, by omega, Nat.le_refl _, hO1, DEl2.nil _ _, hSk, Lib.hid fun h0' e => ?_, hB1w⟩
    have := HKB.out h0' w.heap.size (by rw [e]; rfl)
    omega
  case round =>
    clear hSk hO1 hB1w
    obtain ⟨j, us, rfl, hj, huj, hO, hD, hSk, HNE, hB⟩ := hrel
    by_cases hlt : j < nk
    · obtain ⟨bk, ok, rfl, hbk⟩ := hSk.at' (by omega)
      obtain ⟨k, hk⟩ := hSk.get hlt
      obtain ⟨e0, e1, e2⟩ := hSk.keyC hk
      have HSTEP := Lib.hid (chg_step l before after hk)
      have k1 : (j : Int) < (nk : Int) := by omega
      have k0 : (0 : Int) ≤ (j : Int) := by omega
      have HD := Lib.hid (fun (d : Int) (W : World) (hW : Below w.heap.size w W) => differs_any a0 n0 c0 l k d before after W (h0.below hW))
      have hD0 := OwnSL.made0 encP 2 wr 26 wr.heap.size (Nat.le_refl _)
      have hBd : Below wr.heap.size wr (wr.alloc (.cells #[] 26)) := (Below.refl _ _).alloc (Nat.le_refl _) _
      clear hk
      go_wp2_with fail
      obtain ⟨wo, hwo⟩ : ∃ wo, wo = wr := ⟨_, rfl⟩
      rw [← hwo] at hO hB hSk hbk hD hD0 hBd e0 e1 e2 ⊢
      clear hwo
      go_loopw [10, 11] (fun dv i wr => ∃ (d g c m : Nat), i = .int .i64 d ∧ d ≤ 1024 ∧ dv = .slice (some ⟨g, 0, none⟩) m c ∧ m ≤ d ∧ OwnSL encP 2 wr wo.heap.size 26 dv (spansTo l k before after d) ∧ Hid ((spansTo l k before after d).length = m) ∧ Below wo.heap.size wo wr) (fun _ i _ => 1024 - (intOf i).toNat)
      case atStart => exact ⟨0, _, _, 0, rfl, by omega, rfl, by omega, hD0, Lib.hid rfl, hBd⟩
      case round =>
        clear hD0 hBd
        obtain ⟨d, g, c, m, rfl, hd, rfl, hmd, hOd, HM, hB2⟩ := hrel
        have hsz := hB2.size
        have hol := hOd.lt
        by_cases hltd : d < 1024
        · have hcal := HD.out d wr (hB.on hB2)
          have HS := Lib.hid (spansTo_succ l k before after d)
          obtain ⟨days, hdays⟩ : ∃ days, spansTo l k before after d = days := ⟨_, rfl⟩
          rw [hdays] at hOd HM HS
          clear hdays
          have t1 : (d : Int) < 1024 := by omega
          have hkc2 : ∀ W, Below wr.heap.size wr W → Below wo.heap.size wo W := fun W h => hB2.on h
          have hbk2 : bk < wr.heap.size := by omega
          have f0 := (hB2.cell (p := ⟨bk, ok + j * 3, none⟩) hbk).trans e0
          have f1 := (hB2.cell (p := ⟨bk, ok + j * 3 + 1, none⟩) hbk).trans e1
          have f2 := (hB2.cell (p := ⟨bk, ok + j * 3 + 2, none⟩) hbk).trans e2
          cases hdf : difB l k d before after
          · rw [hdf] at hcal HS
            have HCAL := Lib.hid hcal
            clear hcal hdf
            go_wp2_with (go_at_call 44; refine HCAL.out.mono ?_; rintro e w' ⟨rfl, hb⟩)
            go_roundw
            case rel => exact ⟨d + 1, g, c, m, by go_num, by omega, rfl, by omega, by rw [HS.out]; exact hOd.below hb, Lib.hid (by rw [HS.out]; exact HM.out), hB2.on hb⟩
            case measure => simp [intOf]; omega
          · rw [hdf] at hcal HS
            have HCAL := Lib.hid hcal
            clear hcal hdf
            by_cases hm0 : 0 < m
            · have t2 : (0 : Int) < (m : Int) := by omega
              have t3 : (0 : Int) ≤ (m : Int) - 1 := by omega
              have t4 : (m : Int) - 1 < (m : Int) := by omega
              have t5 : ((m : Int) - 1).toNat = m - 1 := by omega
              have t6 : IntKind.i64.wrap ((m : Int) - 1) = (m : Int) - 1 := by rw [IntKind.wrap_i64]; omega
              obtain ⟨s, hs⟩ : ∃ s, days[m - 1]? = some s := ⟨_, List.getElem?_eq_getElem (by rw [HM.out]; omega)⟩
              have HSS := Lib.hid hs
              clear hs
              by_cases hsd : s.2 = d
              · have t7 : (s.2 == (d : Int)) = true := by rw [hsd]; simp
                have HSD := Lib.hid hsd
                have HJ := Lib.hid (joinD_last (d := d) (by rw [HM.out]; exact HSS.out) hsd)
                clear hsd
                go_wp2_with (go_at_call 44; refine HCAL.out.mono ?_; rintro e w' ⟨rfl, hb⟩; have hOd2 := hOd.below hb; have hSd := hOd2.sl2 encP_len HM.out; obtain ⟨p0, p1⟩ := hSd.pair HSS.out; rw [Nat.zero_add] at p0 p1; have gf := hOd2.frozen ((m - 1) * 2 + 1))
                go_roundw
                case rel =>
                  refine ⟨d + 1, g, c, m, by go_num, by omega, rfl, by omega, ?_, Lib.hid ?_, (hB2.on hb).setCell (p := ⟨g, (m - 1) * 2 + 1, none⟩) (by have := hol g rfl; simp; omega) _⟩
                  · rw [HS.out, if_pos trivial, HJ.out]
                    exact hOd2.setLast HM.out hm0 HSS.out _
                  · rw [HS.out, if_pos trivial, HJ.out, List.length_append, List.length_dropLast, HM.out]; simp; omega
                case measure => simp [intOf]; omega
              · have t7 : (s.2 == (d : Int)) = false := by rw [beq_eq_false_iff_ne]; exact hsd
                have HJ := Lib.hid (joinD_new (days := days) (d := d) (fun s' hs' => by rw [HM.out, HSS.out] at hs'; injection hs' with hs'; rw [← hs']; exact hsd))
                clear hsd
                go_wp2_with (first | (go_at_call 44; refine HCAL.out.mono ?_; rintro e w' ⟨rfl, hb⟩; have hOd2 := hOd.below hb; have hSd := hOd2.sl2 encP_len HM.out; obtain ⟨p0, p1⟩ := hSd.pair HSS.out; rw [Nat.zero_add] at p0 p1; have hbs := hb.size; have hO' := hOd2; unfold OwnSL at hO'; rw [HM.out] at hO') | ((at_builtin; refine wpList_append_own2 _ rfl _ _ 55 rfl wo.heap.size 26 i2s _ 2 16 Try.underlying55 his hzs0 hzs1 hzs2 rfl (by decide) _ _ _ (hO'.alloc _) rfl ⟨_, 0, none⟩ 1 1 (encP ((d : Int), (d : Int) + 1)) rfl rfl (new2 _ _ _) (encP_one _) (by unfold maxLen; omega) (by omega) (by simp; omega) ?_; intro v' w1 hown' hgrow hfr)))
                obtain ⟨a9, c9, rfl, _, _⟩ := own_slice hown'
                have h99 : ∃ g9, a9 = some ⟨g9, 0, none⟩ := by
                  rcases hown'.2 with ⟨e, h0'⟩ | ⟨g9, cap9, cur9, e, _⟩
                  · omega
                  · injection e with e1 e2 e3; exact ⟨g9, e1⟩
                obtain ⟨g9, rfl⟩ := h99
                go_roundw
                case rel =>
                  refine ⟨d + 1, g9, c9, m + 1, by go_num, by omega, rfl, by omega, ?_, Lib.hid ?_, ((hB2.on hb).alloc (by omega) _).grown hgrow (by simp; omega) (fun q e => by have := (hol q e).1; omega)⟩
                  · rw [HS.out, if_pos trivial, HJ.out]
                    refine OwnSL.snoc ?_
                    rw [HM.out]; exact hown'
                  · rw [HS.out, if_pos trivial, HJ.out, List.length_append, HM.out]; rfl
                case measure => simp [intOf]; omega
            · obtain rfl : m = 0 := by omega
              have hdn : days = [] := List.eq_nil_of_length_eq_zero HM.out
              subst hdn
              have HJ := Lib.hid (joinD_nil d)
              go_wp2_with (first | (go_at_call 44; refine HCAL.out.mono ?_; rintro e w' ⟨rfl, hb⟩; have hOd2 := hOd.below hb; have hbs := hb.size; have hO' : w'.ownsRow wo.heap.size 26 2 (.slice (some ⟨g, 0, none⟩) 0 c) 0 [] := hOd2) | ((at_builtin; refine wpList_append_own2 _ rfl _ _ 55 rfl wo.heap.size 26 i2s _ 2 16 Try.underlying55 his hzs0 hzs1 hzs2 rfl (by decide) _ _ _ (hO'.alloc _) rfl ⟨_, 0, none⟩ 1 1 (encP ((d : Int), (d : Int) + 1)) rfl rfl (new2 _ _ _) (encP_one _) (by unfold maxLen; omega) (by omega) (by simp; omega) ?_; intro v' w1 hown' hgrow hfr)))
              obtain ⟨a9, c9, rfl, _, _⟩ := own_slice hown'
              have h99 : ∃ g9, a9 = some ⟨g9, 0, none⟩ := by
                rcases hown'.2 with ⟨e, h0'⟩ | ⟨g9, cap9, cur9, e, _⟩
                · simp at h0'
                · injection e with e1 e2 e3; exact ⟨g9, e1⟩
              obtain ⟨g9, rfl⟩ := h99
              go_roundw
              case rel =>
                refine ⟨d + 1, g9, c9, 1, by go_num, by omega, rfl, by omega, ?_, Lib.hid ?_, ((hB2.on hb).alloc (by omega) _).grown hgrow (by simp; omega) (fun q e => by have := (hol q e).1; omega)⟩
                · rw [HS.out, if_pos trivial, HJ.out]
                  exact OwnSL.snoc (l := []) hown'
                · rw [HS.out, if_pos trivial, HJ.out]; rfl
              case measure => simp [intOf]; omega
        · obtain rfl : d = 1024 := by omega
          have HSP : Hid (spansTo l k before after 1024 = spansL l k before after) := Lib.hid rfl
          have hSd := hOd.sl2 encP_len HM.out
          have hO2 := hO.below hB2
          have hD2 := hD.below hB2
          have hSk2 := hSk.below hB2
          have hvl := hO.lt
          have hbk2 : bk < wr.heap.size := by omega
          have f0 := (hB2.cell (p := ⟨bk, ok + j * 3, none⟩) hbk).trans e0
          have f1 := (hB2.cell (p := ⟨bk, ok + j * 3 + 1, none⟩) hbk).trans e1
          have f2 := (hB2.cell (p := ⟨bk, ok + j * 3 + 2, none⟩) hbk).trans e2
          by_cases hm0 : 0 < m
          · have t2 : (0 : Int) < (m : Int) := by omega
            have hO' := hO2
            unfold OwnSL at hO'
            have HDF : Hid (difOf l before after k = [(k, spansTo l k before after 1024)]) := Lib.hid (by
              unfold difOf; rw [if_neg]; rfl
              intro e; rw [← HSP.out] at e; have := HM.out; rw [e] at this; simp at this; omega)
            have hsb := hB.size
            go_wp2_with ((at_builtin; refine wpList_append_own2 _ rfl _ _ 46 rfl w.heap.size 57 i4d _ 4 48 Try.underlying46 hid hzd0 hzd1 hzd2 rfl (by decide) _ _ _ (hO'.alloc _) rfl ⟨_, 0, none⟩ 1 1 (encD (k, .slice (some ⟨g, 0, none⟩) m c)) rfl rfl (new4 _ _ _ _ _ _) (encD_one _ _ _ _) (by unfold maxLen; omega) (by omega) (by simp; omega) ?_; intro v' w1 hown' hgrow hfr))
            go_roundw
            case rel =>
              have hal2 : Below wr.heap.size wr (wr.alloc (.cells #[.int .i64 k.kd, .int .i64 k.sb, .int .i64 k.ob, .slice (some ⟨g, 0, none⟩) m c] 57)) := (Below.refl _ _).alloc (Nat.le_refl _) _
              have hvw : ∀ q, u7.ownBlock = some q → q < wo.heap.size := fun q e => (hvl q e).2
              refine ⟨j + 1, us ++ [(k, .slice (some ⟨g, 0, none⟩) m c)], by go_num, by omega, by simp; omega, OwnSL.snoc hown', ?_, (hSk2.below hal2).grown hgrow (fun h0' => HNE.out h0'), Lib.hid fun h0' e => ?_, ((hB.on hB2).on hal2).grown hgrow (by simp; omega) (fun q e => (hvl q e).1)⟩
              · rw [HSTEP.out, HDF.out]
                exact (hD2.below hal2).push hgrow hfr (hSd.below hal2) (fun _ e => by have := hvw g (by rw [← e]; rfl); have := (hol g rfl).1; omega)
              · rcases hfr with h | h
                · rw [h] at e; exact HNE.out h0' e
                · rw [h] at e; simp [Value.ownBlock] at e; omega
            case measure => simp [intOf]; omega
          · obtain rfl : m = 0 := by omega
            have HDF : Hid (difOf l before after k = []) := Lib.hid (by
              unfold difOf; rw [if_pos]
              rw [← HSP.out]; exact List.eq_nil_of_length_eq_zero HM.out)
            go_wp2_with fail
            go_roundw
            case rel => exact ⟨j + 1, us, by go_num, by omega, by omega, hO2, by rw [HSTEP.out, HDF.out, List.append_nil]; exact hD2, hSk2, HNE, hB.on hB2⟩
            case measure => simp [intOf]; omega
    · obtain rfl : j = nk := by omega
      go_wp2_with fail
      go_ret
      refine ⟨_, us, rfl, hO, ?_, hB⟩
      rw [HCH.out]
      rw [List.take_of_length_le (by rw [HNK.out]; exact Nat.le_refl _)] at hD
      exact hD.del
end Go.Proofs.Ytfhekhjojdhmhaa
