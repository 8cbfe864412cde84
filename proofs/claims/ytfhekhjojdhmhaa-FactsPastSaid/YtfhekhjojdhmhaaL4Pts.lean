/- Points are the values of At by increasing days (law04.FactsPoints), at every input. -/
import Derived.Test.YtfhekhjojdhmhaaSane4
import Derived.Test.YtfhekhjojdhmhaaRow4
import Derived.Test.YtfhekhjojdhmhaaHeadF
import Derived.Test.YtfhekhjojdhmhaaL4Pk
import Derived.WalkKit
import Derived.WalkSpells
import Derived.WalkLawsBesides
import Derived.Deep.LoopGhost
import Derived.Deep.QuietTactic
import Derived.BigQuiet
import Derived.StillTailTactics
import Derived.Lib.Hide
import Derived.Outline
import Derived.Lib.QuietBelow
namespace Go.Proofs.Ytfhekhjojdhmhaa
open Go.ChangeShapes Go.WideShapes Go.ChangeAt Go.RowKit Go.Deep

section
variable {H : Type} {enc : TypeId × Value → H} {P : Program} {w : World} {base : Nat} {spare : Nat → Bool} {held : Bool}
theorem trodAll_five {t t' t'' t3 t4 : TypeId} {args : Array Value} {ds : List (DataW H)} {ps : List MemPlace} (h : DataW.TrodAll enc P w base spare held [t, t', t'', t3, t4] args.toList ds ps) :
    ∃ v v' v'' v3 v4 d d' d'' d3 d4 p p' p'' p3 p4, args = #[v, v', v'', v3, v4] ∧ ds = [d, d', d'', d3, d4] ∧ ps = p ++ p' ++ p'' ++ p3 ++ p4 ∧ DataW.Trod enc P w base spare held t v d p ∧ DataW.Trod enc P w base spare held t' v' d' p' ∧ DataW.Trod enc P w base spare held t'' v'' d'' p'' ∧ DataW.Trod enc P w base spare held t3 v3 d3 p3 ∧ DataW.Trod enc P w base spare held t4 v4 d4 p4 := by
  obtain ⟨v, vs, d, ds', p, q, hargs, rfl, rfl, hd, hrest⟩ := trodAll_cons h
  obtain ⟨v', vs', d', ds'', p', q', rfl, rfl, rfl, hd', hrest'⟩ := trodAll_cons hrest
  obtain ⟨v'', vs'', d'', ds''', p'', q'', rfl, rfl, rfl, hd'', hrest''⟩ := trodAll_cons hrest'
  obtain ⟨v3, vs3, d3, ds3, p3, q3, rfl, rfl, rfl, hd3, hrest3⟩ := trodAll_cons hrest''
  obtain ⟨v4, vs4, d4, ds4, p4, q4, rfl, rfl, rfl, hd4, hrest4⟩ := trodAll_cons hrest3
  obtain ⟨rfl, rfl, rfl⟩ := trodAll_nil hrest4
  exact ⟨v, v', v'', v3, v4, d, d', d'', d3, d4, p, p', p'', p3, p4, by cases args; simp_all, rfl, by simp, hd, hd', hd'', hd3, hd4⟩
end
def ptsUp (l : List Fact) (k : Key) (fr til kn : Int) (d : Nat) : List (Int × Int) := (((List.range d).map Int.ofNat).filter fun d => decide (fr ≤ d ∧ d < til)).filterMap fun d => (atF l k d kn).map fun v => (d, v)
theorem ptsUp_succ (l : List Fact) (k : Key) (fr til kn : Int) (d : Nat) : ptsUp l k fr til kn (d + 1) = ptsUp l k fr til kn d ++ (if fr ≤ d ∧ (d : Int) < til then ((atF l k d kn).map fun v => ((d : Int), v)).toList else []) := by
  unfold ptsUp
  rw [List.range_succ, List.map_append, List.filter_append, List.filterMap_append]
  congr 1
  by_cases h : fr ≤ d ∧ (d : Int) < til
  · rw [if_pos h]
    simp only [List.map_cons, List.map_nil, Int.ofNat_eq_natCast, List.filter_cons, h, and_self, decide_true, if_true, List.filter_nil, List.filterMap_cons, List.filterMap_nil]
    cases atF l k d kn <;> rfl
  · rw [if_neg h]
    simp [h]
theorem ptsUp_all (l : List Fact) (k : Key) (fr til kn : Int) : ptsUp l k fr til kn 1024 = pointsL l k fr til kn := rfl
/-- A day's points stand ahead of those of the later days. -/
theorem pts_at (l : List Fact) (k : Key) (fr til kn : Int) (d : Nat) (hd : d ≤ 1024) : ∃ r, pointsL l k fr til kn = ptsUp l k fr til kn d ++ r := by
  rw [← ptsUp_all]
  have : ∀ m, d ≤ m → ∃ r, ptsUp l k fr til kn m = ptsUp l k fr til kn d ++ r := by
    intro m hm
    induction m with
    | zero => obtain rfl : d = 0 := by omega
              exact ⟨[], by simp⟩
    | succ m ih =>
      by_cases h : d ≤ m
      · obtain ⟨r, hr⟩ := ih h
        rw [ptsUp_succ, hr]
        exact ⟨_, List.append_assoc _ _ _⟩
      · obtain rfl : d = m + 1 := by omega
        exact ⟨[], by simp⟩
  exact this 1024 hd

set_option maxRecDepth 20000 in
set_option maxHeartbeats 4000000 in
theorem lawPts_any (a0 : Option Addr) (n0 c0 : Nat) (l : List Fact) (k : Key) (fr til kn : Int) (W : World) (h0 : SL encF 8 W a0 n0 c0 l) (_hk : okK k) :
    Calls Try.prog 10 #[.slice a0 n0 c0, keyV k, .int .i64 fr, .int .i64 til, .int .i64 kn] W fun e w' => e = .returned (.bool true) ∧ Below W.heap.size W w' := by
  have hal : Below W.heap.size W (W.alloc (.cells #[.int .i64 k.kd, .int .i64 k.sb, .int .i64 k.ob] 24)) := (Below.refl _ _).alloc (Nat.le_refl _) _
  have HBX := Box.new W #[.int .i64 k.kd, .int .i64 k.sb, .int .i64 k.ob] 24
  obtain ⟨w0, hw0⟩ : ∃ w0, (W.alloc (.cells #[.int .i64 k.kd, .int .i64 k.sb, .int .i64 k.ob] 24)) = w0 := ⟨_, rfl⟩
  rw [hw0] at hal HBX
  have HW := Lib.hid hw0
  have h0W := h0.below hal
  cases hf : decide (l.length ≤ 30)
  · skip
    have HF := Lib.hid hf
    clear hf hw0
    go_enter Try.func10, Try.ntmps10
    go_wp2_with fail
    rw [HW.out]
    refine (sane04_any _).mono ?_
    rintro e w1 ⟨rfl, hB1⟩
    go_wp2_with fail
    have hc := few04_any _ _ c0 l w1 (h0W.below hB1)
    rw [HF.out] at hc
    refine hc.mono ?_
    rintro e w2 ⟨rfl, rfl⟩
    clear hc
    replace HBX := HBX.below hB1
    replace hal := hal.on hB1
    clear h0W hB1
    go_wp2_with fail
    go_ret
    exact ⟨rfl, hal⟩
  · have hn : n0 ≤ 30 := by have := of_decide_eq_true hf; rw [h0.len] at this; exact this
    have HF := Lib.hid hf
    clear hf hw0
    by_cases hp : 0 < n0
    · have t0 : (0 : Int) < (n0 : Int) := by omega
      go_enter Try.func10, Try.ntmps10
      go_wp2_with fail
      rw [HW.out]
      refine (sane04_any _).mono ?_
      rintro e w1 ⟨rfl, hB1⟩
      go_wp2_with fail
      have hc := few04_any _ _ c0 l w1 (h0W.below hB1)
      rw [HF.out] at hc
      refine hc.mono ?_
      rintro e w2 ⟨rfl, rfl⟩
      clear hc
      replace HBX := HBX.below hB1
      replace hal := hal.on hB1
      clear h0W hB1
      obtain ⟨q0, q1, q2⟩ := Box3 HBX
      obtain ⟨p, hpn, hpe⟩ := pick_key k.sb hp
      have t1 : (0 : Int) ≤ (bits BinOp.and IntKind.i64 k.sb 31).tmod (n0 : Int) := by omega
      have t2 : (bits BinOp.and IntKind.i64 k.sb 31).tmod (n0 : Int) < (n0 : Int) := by omega
      have t3 : ((bits BinOp.and IntKind.i64 k.sb 31).tmod (n0 : Int)).toNat = p := by omega
      clear hpe
      obtain ⟨b0, o0, rfl, hb0⟩ := h0.at' hp
      obtain ⟨x, hx⟩ := h0.get hpn
      obtain ⟨e0, e1, e2, _⟩ := (h0.below hal).fact hx
      have hbl := HBX.lt
      have gf : ∀ i, w2.frozen? ⟨W.heap.size, i, none⟩ = false := fun i => HBX.frozen i
      go_wp2_with fail
      have hal3 := ((hal.setCell (p := ⟨W.heap.size, 0, none⟩) (Nat.le_refl _) (.int .i64 x.kd)).setCell (p := ⟨W.heap.size, 1, none⟩) (Nat.le_refl _) (.int .i64 x.sb)).setCell (p := ⟨W.heap.size, 2, none⟩) (Nat.le_refl _) (.int .i64 x.ob)
      have HK := Box3 (k := x.key) (HBX.set3 (.int .i64 x.kd) (.int .i64 x.sb) (.int .i64 x.ob))
      obtain ⟨w3, hw3⟩ : ∃ w3, ((w2.setCell ⟨W.heap.size, 0, none⟩ (.int .i64 x.kd)).setCell ⟨W.heap.size, 1, none⟩ (.int .i64 x.sb)).setCell ⟨W.heap.size, 2, none⟩ (.int .i64 x.ob) = w3 := ⟨_, rfl⟩
      rw [hw3] at hal3 HK ⊢
      clear hw3 gf hbl e0 e1 e2 HBX hal
      obtain ⟨kk, hkk⟩ : ∃ kk, x.key = kk := ⟨_, rfl⟩
      obtain ⟨hkd, hsb, hob⟩ : x.kd = kk.kd ∧ x.sb = kk.sb ∧ x.ob = kk.ob := by rw [← hkk]; exact ⟨rfl, rfl, rfl⟩
      rw [hkk] at HK
      rw [hkd, hsb, hob]
      clear hkk hkd hsb hob hx
      refine (points_any _ _ c0 l kk fr til kn w3 (h0.below hal3)).mono ?_
      rintro e w4 ⟨pv, rfl, hO, hB4⟩
      obtain ⟨pa, pc, rfl, hP⟩ := hO.sl encP_len
      replace HK : K3 w4 W.heap.size kk := K3.below HK hB4
      replace hal3 := hal3.on hB4
      clear hO hB4
      have HPE := Lib.hid (fun (d : Nat) (hd : d ≤ 1024) => pts_at l kk fr til kn d hd)
      obtain ⟨ps, hps⟩ : ∃ ps, pointsL l kk fr til kn = ps := ⟨_, rfl⟩
      rw [hps] at hP HPE ⊢
      obtain ⟨np, hnp⟩ : ∃ np, ps.length = np := ⟨_, rfl⟩
      rw [hnp] at hP ⊢
      have HNP := Lib.hid hnp
      have hpc := hP.cap
      have hpm := hP.mx
      unfold maxLen at hpm
      have HPS := Lib.hid hps
      clear hps hnp
      go_wp2_with fail
      go_loopw [12, 13] (fun m i wr => ∃ d nn : Nat, i = .int .i64 d ∧ m = .int .i64 nn ∧ d ≤ 1024 ∧ nn ≤ d ∧ Hid (nn = (ptsUp l kk fr til kn d).length) ∧ Below w4.heap.size w4 wr) (fun _ i _ => 1024 - (intOf i).toNat)
      case atStart => exact ⟨0, 0, rfl, rfl, by omega, by omega, Lib.hid rfl, Below.refl _ _⟩
      case round =>
        obtain ⟨d, nn, rfl, rfl, hd, hnd, HN, hB⟩ := hrel
        by_cases hlt : d < 1024
        · have hpd := (HPE.out (d + 1) (by omega))
          have hpd0 := (HPE.out d (by omega))
          have hsu := ptsUp_succ l kk fr til kn d
          obtain ⟨q3, q4, q5⟩ := K3.below HK hB
          have t5 : (d : Int) < 1024 := by omega
          have hc := at_any _ _ c0 l kk d kn wr (h0.below (hal3.on hB))
          unfold atV atOk at hc
          cases hat : atF l kk d kn with
          | none =>
            rw [hat] at hc hsu
            simp only [Option.getD_none, Option.isSome_none] at hc
            have HU : Hid ((ptsUp l kk fr til kn (d + 1)).length = (ptsUp l kk fr til kn d).length) := Lib.hid (by rw [hsu]; simp)
            clear hsu hpd hpd0 hat
            go_wp2_with fail
            refine hc.mono ?_
            rintro e w5 ⟨rfl, hb5⟩
            clear hc
            go_wp2_with fail
            go_roundw
            case rel => exact ⟨d + 1, nn, by go_num, rfl, by omega, by omega, Lib.hid (by rw [HU.out]; exact HN.out), hB.on hb5⟩
            case measure => simp [intOf]; omega
          | some v =>
            rw [hat] at hc hsu
            simp only [Option.getD_some, Option.isSome_some] at hc
            by_cases hr1 : fr ≤ (d : Int)
            · have s1 : ¬ (d : Int) < fr := by omega
              by_cases hr2 : (d : Int) < til
              · have s2 : ¬ til ≤ (d : Int) := by omega
                rw [if_pos ⟨hr1, hr2⟩] at hsu
                simp only [Option.map_some, Option.toList_some] at hsu
                have hget : ps[nn]? = some ((d : Int), v) := by
                  obtain ⟨r, hr⟩ := hpd
                  rw [hr, hsu, HN.out]
                  simp
                have HU : Hid ((ptsUp l kk fr til kn (d + 1)).length = nn + 1) := Lib.hid (by rw [hsu, HN.out]; simp)
                have hnn : nn < np := by rw [← HNP.out]; exact (List.getElem?_eq_some_iff.1 hget).1
                obtain ⟨gb, go, rfl, hgb⟩ := hP.at' (by omega)
                have s3 : ¬ (np : Int) ≤ (nn : Int) := by omega
                have s4 : (nn : Int) < (np : Int) := by omega
                have s5 : (0 : Int) ≤ (nn : Int) := by omega
                have HGP := Lib.hid (fun (w' : World) (hw' : Below w4.heap.size w4 w') => (hP.below hw').pair hget)
                clear hsu hpd hpd0 hat hget hr1 hr2
                go_wp2_with fail
                refine hc.mono ?_
                rintro e w5 ⟨rfl, hb5⟩
                clear hc
                have hB5 := hB.on hb5
                obtain ⟨e3, e4⟩ := HGP.out w5 hB5
                go_wp2_with fail
                go_roundw
                case rel => exact ⟨d + 1, nn + 1, by go_num, by go_num, by omega, by omega, Lib.hid (by rw [HU.out]), hB5⟩
                case measure => simp [intOf]; omega
              · have s2 : til ≤ (d : Int) := by omega
                rw [if_neg (fun h => hr2 h.2)] at hsu
                have HU : Hid ((ptsUp l kk fr til kn (d + 1)).length = (ptsUp l kk fr til kn d).length) := Lib.hid (by rw [hsu]; simp)
                clear hsu hpd hpd0 hat hr1 hr2
                go_wp2_with fail
                refine hc.mono ?_
                rintro e w5 ⟨rfl, hb5⟩
                clear hc
                go_wp2_with fail
                go_roundw
                case rel => exact ⟨d + 1, nn, by go_num, rfl, by omega, by omega, Lib.hid (by rw [HU.out]; exact HN.out), hB.on hb5⟩
                case measure => simp [intOf]; omega
            · have s1 : (d : Int) < fr := by omega
              rw [if_neg (fun h => hr1 h.1)] at hsu
              have HU : Hid ((ptsUp l kk fr til kn (d + 1)).length = (ptsUp l kk fr til kn d).length) := Lib.hid (by rw [hsu]; simp)
              clear hsu hpd hpd0 hat hr1
              go_wp2_with fail
              refine hc.mono ?_
              rintro e w5 ⟨rfl, hb5⟩
              clear hc
              go_wp2_with fail
              go_roundw
              case rel => exact ⟨d + 1, nn, by go_num, rfl, by omega, by omega, Lib.hid (by rw [HU.out]; exact HN.out), hB.on hb5⟩
              case measure => simp [intOf]; omega
        · obtain rfl : d = 1024 := by omega
          have hnn : nn = np := by rw [HN.out, ptsUp_all, HPS.out, HNP.out]
          have s6 : ((nn : Int) == (np : Int)) = true := by simp [hnn]
          go_wp2_with fail
          go_ret
          exact ⟨by simp [hnn], hal3.on hB⟩
    · obtain rfl : n0 = 0 := by omega
      go_enter Try.func10, Try.ntmps10
      go_wp2_with fail
      rw [HW.out]
      refine (sane04_any _).mono ?_
      rintro e w1 ⟨rfl, hB1⟩
      go_wp2_with fail
      have hc := few04_any _ _ c0 l w1 (h0W.below hB1)
      rw [HF.out] at hc
      refine hc.mono ?_
      rintro e w2 ⟨rfl, rfl⟩
      clear hc
      replace HBX := HBX.below hB1
      replace hal := hal.on hB1
      clear h0W hB1
      have HK := Box3 HBX
      have hal3 := hal
      obtain ⟨q0, q1, q2⟩ := Box3 HBX
      clear hal HBX
      go_wp2_with fail
      refine (points_any _ _ c0 l k fr til kn w2 (h0.below hal3)).mono ?_
      rintro e w4 ⟨pv, rfl, hO, hB4⟩
      obtain ⟨pa, pc, rfl, hP⟩ := hO.sl encP_len
      replace HK : K3 w4 W.heap.size k := K3.below HK hB4
      replace hal3 := hal3.on hB4
      clear hO hB4
      have HPE := Lib.hid (fun (d : Nat) (hd : d ≤ 1024) => pts_at l k fr til kn d hd)
      obtain ⟨ps, hps⟩ : ∃ ps, pointsL l k fr til kn = ps := ⟨_, rfl⟩
      rw [hps] at hP HPE ⊢
      obtain ⟨np, hnp⟩ : ∃ np, ps.length = np := ⟨_, rfl⟩
      rw [hnp] at hP ⊢
      have HNP := Lib.hid hnp
      have hpc := hP.cap
      have hpm := hP.mx
      unfold maxLen at hpm
      have HPS := Lib.hid hps
      clear hps hnp
      go_wp2_with fail
      go_loopw [12, 13] (fun m i wr => ∃ d nn : Nat, i = .int .i64 d ∧ m = .int .i64 nn ∧ d ≤ 1024 ∧ nn ≤ d ∧ Hid (nn = (ptsUp l k fr til kn d).length) ∧ Below w4.heap.size w4 wr) (fun _ i _ => 1024 - (intOf i).toNat)
      case atStart => exact ⟨0, 0, rfl, rfl, by omega, by omega, Lib.hid rfl, Below.refl _ _⟩
      case round =>
        obtain ⟨d, nn, rfl, rfl, hd, hnd, HN, hB⟩ := hrel
        by_cases hlt : d < 1024
        · have hpd := (HPE.out (d + 1) (by omega))
          have hpd0 := (HPE.out d (by omega))
          have hsu := ptsUp_succ l k fr til kn d
          obtain ⟨q3, q4, q5⟩ := K3.below HK hB
          have t5 : (d : Int) < 1024 := by omega
          have hc := at_any _ _ c0 l k d kn wr (h0.below (hal3.on hB))
          unfold atV atOk at hc
          cases hat : atF l k d kn with
          | none =>
            rw [hat] at hc hsu
            simp only [Option.getD_none, Option.isSome_none] at hc
            have HU : Hid ((ptsUp l k fr til kn (d + 1)).length = (ptsUp l k fr til kn d).length) := Lib.hid (by rw [hsu]; simp)
            clear hsu hpd hpd0 hat
            go_wp2_with fail
            refine hc.mono ?_
            rintro e w5 ⟨rfl, hb5⟩
            clear hc
            go_wp2_with fail
            go_roundw
            case rel => exact ⟨d + 1, nn, by go_num, rfl, by omega, by omega, Lib.hid (by rw [HU.out]; exact HN.out), hB.on hb5⟩
            case measure => simp [intOf]; omega
          | some v =>
            rw [hat] at hc hsu
            simp only [Option.getD_some, Option.isSome_some] at hc
            by_cases hr1 : fr ≤ (d : Int)
            · have s1 : ¬ (d : Int) < fr := by omega
              by_cases hr2 : (d : Int) < til
              · have s2 : ¬ til ≤ (d : Int) := by omega
                rw [if_pos ⟨hr1, hr2⟩] at hsu
                simp only [Option.map_some, Option.toList_some] at hsu
                have hget : ps[nn]? = some ((d : Int), v) := by
                  obtain ⟨r, hr⟩ := hpd
                  rw [hr, hsu, HN.out]
                  simp
                have HU : Hid ((ptsUp l k fr til kn (d + 1)).length = nn + 1) := Lib.hid (by rw [hsu, HN.out]; simp)
                have hnn : nn < np := by rw [← HNP.out]; exact (List.getElem?_eq_some_iff.1 hget).1
                obtain ⟨gb, go, rfl, hgb⟩ := hP.at' (by omega)
                have s3 : ¬ (np : Int) ≤ (nn : Int) := by omega
                have s4 : (nn : Int) < (np : Int) := by omega
                have s5 : (0 : Int) ≤ (nn : Int) := by omega
                have HGP := Lib.hid (fun (w' : World) (hw' : Below w4.heap.size w4 w') => (hP.below hw').pair hget)
                clear hsu hpd hpd0 hat hget hr1 hr2
                go_wp2_with fail
                refine hc.mono ?_
                rintro e w5 ⟨rfl, hb5⟩
                clear hc
                have hB5 := hB.on hb5
                obtain ⟨e3, e4⟩ := HGP.out w5 hB5
                go_wp2_with fail
                go_roundw
                case rel => exact ⟨d + 1, nn + 1, by go_num, by go_num, by omega, by omega, Lib.hid (by rw [HU.out]), hB5⟩
                case measure => simp [intOf]; omega
              · have s2 : til ≤ (d : Int) := by omega
                rw [if_neg (fun h => hr2 h.2)] at hsu
                have HU : Hid ((ptsUp l k fr til kn (d + 1)).length = (ptsUp l k fr til kn d).length) := Lib.hid (by rw [hsu]; simp)
                clear hsu hpd hpd0 hat hr1 hr2
                go_wp2_with fail
                refine hc.mono ?_
                rintro e w5 ⟨rfl, hb5⟩
                clear hc
                go_wp2_with fail
                go_roundw
                case rel => exact ⟨d + 1, nn, by go_num, rfl, by omega, by omega, Lib.hid (by rw [HU.out]; exact HN.out), hB.on hb5⟩
                case measure => simp [intOf]; omega
            · have s1 : (d : Int) < fr := by omega
              rw [if_neg (fun h => hr1 h.1)] at hsu
              have HU : Hid ((ptsUp l k fr til kn (d + 1)).length = (ptsUp l k fr til kn d).length) := Lib.hid (by rw [hsu]; simp)
              clear hsu hpd hpd0 hat hr1
              go_wp2_with fail
              refine hc.mono ?_
              rintro e w5 ⟨rfl, hb5⟩
              clear hc
              go_wp2_with fail
              go_roundw
              case rel => exact ⟨d + 1, nn, by go_num, rfl, by omega, by omega, Lib.hid (by rw [HU.out]; exact HN.out), hB.on hb5⟩
              case measure => simp [intOf]; omega
        · obtain rfl : d = 1024 := by omega
          have hnn : nn = np := by rw [HN.out, ptsUp_all, HPS.out, HNP.out]
          have s6 : ((nn : Int) == (np : Int)) = true := by simp [hnn]
          go_wp2_with fail
          go_ret
          exact ⟨by simp [hnn], hal3.on hB⟩

end Go.Proofs.Ytfhekhjojdhmhaa
namespace Go.Proofs.Ytfhekhjojdhmhaa
open Go.ChangeShapes Go.WideShapes Go.ChangeAt Go.RowKit Go.Deep
set_option maxRecDepth 100000 in
set_option maxHeartbeats 2000000 in
theorem lifted_Pts (os : Os) (started : os.Started) (H : Type) (enc : TypeId × Value → H) :
    ReturnsInHanded {} Try.checked os 10 .any (Rows.factsPointsSpec.pre6 enc Try.prog Try.f10 Rows.factsPointsRow.domain false) (Rows.factsPointsSpec.post enc Try.prog Try.f10 false true false false) := by
  refine returnsInHanded_of_change (C := Try.checked) row_own started (by kernel_rfl) Try.func10
    (ChangeSpec.witness6 (enc := enc) (C := Try.checked) false ⟨#[], #[.slice none 0 0, .agg #[.int .i64 0, .int .i64 0, .int .i64 0], .int .i64 0, .int .i64 0, .int .i64 0], []⟩ 8 (by kernel_rfl) (by kernel_rfl) (by kernel_rfl) (by kernel_rfl)) ?_
  intro W base args ds gs before hval0 hW _ _
  have hval : ∀ (j : Nat) t v, Try.f10.params[j]? = some t → args[j]? = some v → Value.okWide Try.prog W .any base t v := hval0
  have hW' := hW
  obtain ⟨p, q, hA0, hV, rfl, _, _⟩ := hW
  have hA : DataW.TrodAll enc Try.prog W 0 (fun _ => true) true Try.f10.params.toList args.toList ds p := hA0
  rw [Try.params10] at hA hval
  obtain ⟨v0, v1, v2, v3, v4, d0, d1, d2, d3, d4, p0, p1, p2, p3, p4, rfl, rfl, rfl, h0, h1, h2, h3, h4⟩ := trodAll_five hA
  obtain ⟨rfl, rfl⟩ := trodVars_none hV
  obtain ⟨a0, n0, c0, l, rfl, h0', hok⟩ := open_facts (hval 0 22 v0 rfl rfl) h0
  obtain ⟨k, rfl, hokk⟩ := open_key (hval 1 24 v1 rfl rfl) h1
  obtain ⟨x2, rfl, rfl, rfl, _⟩ := open_int Try.underlying3 (hval 2 3 v2 rfl rfl) h2
  obtain ⟨x3, rfl, rfl, rfl, _⟩ := open_int Try.underlying3 (hval 3 3 v3 rfl rfl) h3
  obtain ⟨x4, rfl, rfl, rfl, _⟩ := open_int Try.underlying3 (hval 4 3 v4 rfl rfl) h4
  refine (lawPts_any a0 n0 c0 l k x2 x3 x4 W h0' hokk).mono fun e W' ⟨he, hb⟩ => ?_
  subst he
  exact ⟨_, rfl, law_post hW' rfl rfl (by kernel_rfl) rfl hb⟩
set_option maxHeartbeats 2000000 in
theorem closed_Pts : joinedFacts Try.prog 10 Try.f10 Rows.factsPointsSpec Rows.factsPointsRow = true := by
  unfold joinedFacts
  refine bt (bt (bt (bt (bt (bt (bt (bt (bt (bt (bt (bt (bt (bt (bt (bt (bt (bt (bt (bt (bt (bt (bt (bt (bt (bt (bt (bt (bt (bt (bt ?a0 ?a1) ?a2) ?a3) ?a4) ?a5) ?a6) ?a7) ?a8) ?a9) ?a10) ?a11) ?a12) ?a13) ?a14) ?a15) ?a16) ?a17) ?a18) ?a19) ?a20) ?a21) ?a22) ?a23) ?a24) ?a25) ?a26) ?a27) ?a28) ?a29) ?a30) ?a31
  case a25 => exact prog_enter
  case a26 => exact prog_lifts
  case a27 => exact prog_make
  all_goals as_aux_lemma => kernel_rfl
theorem factsPoints_holds : Rows.FactsPointsSaid :=
  OpenClaim.holds_of_wide 10 Try.f10 rfl rfl rfl rfl rfl rfl rfl ⟨rfl, rfl, rfl, rfl, rfl⟩ rfl rfl rfl rfl rfl (by kernel_rfl) Try.func10 closed_Pts
    (of_decide_eq_true (by kernel_rfl)) (by unfold Func.isWrapper; rw [if_neg (of_decide_eq_false (by kernel_rfl))]; exact ⟨rfl, rfl⟩)
    (fun os started H enc _ => lifted_Pts os started H enc)
#print axioms factsPoints_holds
end Go.Proofs.Ytfhekhjojdhmhaa
