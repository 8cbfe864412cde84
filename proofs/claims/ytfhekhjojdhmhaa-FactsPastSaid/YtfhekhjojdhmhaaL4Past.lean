/- What was known at a time is not changed by later facts (law04.FactsPast), at every input. -/
import Derived.Test.YtfhekhjojdhmhaaSane4
import Derived.Test.YtfhekhjojdhmhaaRow4
import Derived.Test.YtfhekhjojdhmhaaHeadF
import Derived.Test.YtfhekhjojdhmhaaL4Pts
import Derived.Test.YtfhekhjojdhmhaaL4Key
import Derived.Test.YtfhekhjojdhmhaaL4UpM
import Derived.Test.YtfhekhjojdhmhaaL4Chg
import Derived.Test.YtfhekhjojdhmhaaApp2
import Derived.WalkKit
import Derived.WalkSpells
import Derived.WalkLawsBesides
import Derived.Deep.LoopGhost
import Derived.Deep.QuietTactic
import Derived.BigQuiet
import Derived.StillTailTactics
import Derived.Lib.Hide
import Derived.Outline
import Derived.Lib.QuietBelow
namespace Go.Proofs.Ytfhekhjojdhmhaa
open Go.ChangeShapes Go.WideShapes Go.ChangeAt Go.RowKit Go.Deep

theorem SL.news {w : World} {a : Option Addr} {n c : Nat} {l : List Fact} (h : SL encF 8 w a n c l) : ∀ ad, a = some ad → ∀ j u, (l.flatMap encF)[j]? = some u → w.cell? (ad.add j) = some u := by
  intro ad ha j u hj
  have hjl := (List.getElem?_eq_some_iff.1 hj).1
  rw [flat_len encF_len] at hjl
  obtain ⟨b, o, e, _⟩ := h.at' (by rw [← h.len]; omega)
  obtain ⟨x, hx⟩ : ∃ x, l[j / 8]? = some x := ⟨_, List.getElem?_eq_getElem (by omega)⟩
  have h2 := flat_get encF_len l (j / 8) x hx (j % 8) (by omega)
  rw [show j / 8 * 8 + j % 8 = j by omega, hj] at h2
  have := h.cell b o e (j / 8) x hx (j % 8) u h2.symm
  rw [e] at ha
  injection ha with ha
  subst ha
  have e2 : Addr.add ⟨b, o, none⟩ j = ⟨b, o + j / 8 * 8 + j % 8, none⟩ := by
    rw [show o + j / 8 * 8 + j % 8 = o + j by omega]
    by_cases h0 : j = 0 <;> simp [Addr.add, h0]
  rw [e2]
  exact this
theorem SL.none0 {w : World} {a : Option Addr} {n c : Nat} {l : List Fact} (h : SL encF 8 w a n c l) : a = none → n = 0 := by
  intro e
  by_cases hn : 0 < n
  · obtain ⟨b, o, e', _⟩ := h.at' hn; rw [e] at e'; cases e'
  · omega

theorem flatF_one (l : List Fact) : ∀ u ∈ l.flatMap encF, u.oneCell' = true := by
  intro u hu
  obtain ⟨f, _, hf⟩ := List.mem_flatMap.1 hu
  exact encF_one f u hf

def keysTo (xs : List Fact) (k : Key) (p : Nat) : List Key := k :: (xs.take p).map Fact.key
theorem keysTo_succ {xs : List Fact} {p : Nat} {y : Fact} (k : Key) (hy : xs[p]? = some y) : keysTo xs k (p + 1) = keysTo xs k p ++ [y.key] := by
  unfold keysTo; rw [List.take_add_one, hy]; simp
theorem keysTo_len {xs : List Fact} {p : Nat} {k : Key} (h : p ≤ xs.length) : (keysTo xs k p).length = p + 1 := by
  unfold keysTo; simp; omega
theorem points_more (l more : List Fact) (k : Key) (fr til : Int) {kn : Int} (hm : ∀ f ∈ more, kn < f.kn) {a0 : Option Addr} {n0 c0 : Nat} (w : World) (h0 : SL encF 8 w a0 n0 c0 (l ++ more)) :
    Calls Try.prog 21 #[.slice a0 n0 c0, keyV k, .int .i64 fr, .int .i64 til, .int .i64 kn] w (RetPts w (pointsL l k fr til kn)) := by
  have h := points_any a0 n0 c0 (l ++ more) k fr til kn w h0
  rw [pts_more l more k fr til hm (Int.le_refl _)] at h
  exact h.mono (fun e w' h => RetPts.of h)

set_option maxRecDepth 20000 in
set_option maxHeartbeats 8000000 in
theorem lawPast_any (a0 a1 : Option Addr) (n0 c0 n1 c1 : Nat) (l more : List Fact) (k : Key) (dy kn : Int) (W : World) (h0 : SL encF 8 W a0 n0 c0 l) (h1 : SL encF 8 W a1 n1 c1 more) (hok : ∀ x ∈ l, okF x) (hok1 : ∀ x ∈ more, okF x) :
    Calls Try.prog 6 #[.slice a0 n0 c0, .slice a1 n1 c1, keyV k, .int .i64 dy, .int .i64 kn] W fun e w' => e = .returned (.bool true) ∧ Below W.heap.size W w' := by
  have HOK := Lib.hid hok
  have HOK1 := Lib.hid hok1
  clear hok hok1
  have hal : Below W.heap.size W (W.alloc (.cells #[.int .i64 k.kd, .int .i64 k.sb, .int .i64 k.ob] 24)) := (Below.refl _ _).alloc (Nat.le_refl _) _
  have HBX := Box.new W #[.int .i64 k.kd, .int .i64 k.sb, .int .i64 k.ob] 24
  obtain ⟨w0, hw0⟩ : ∃ w0, (W.alloc (.cells #[.int .i64 k.kd, .int .i64 k.sb, .int .i64 k.ob] 24)) = w0 := ⟨_, rfl⟩
  rw [hw0] at hal HBX
  have HW := Lib.hid hw0
  have h0W := h0.below hal
  clear hw0
  by_cases h10 : n0 ≤ 10
  · have t0 : ¬ (10 : Int) < (n0 : Int) := by omega
    have t0' : decide ((10 : Int) < (n0 : Int)) = false := decide_eq_false t0
    by_cases h6 : n1 ≤ 6
    · have t1 : ¬ (6 : Int) < (n1 : Int) := by omega
      have t1' : decide ((6 : Int) < (n1 : Int)) = false := decide_eq_false t1
      by_cases hk0 : 0 ≤ kn
      · have t2 : ¬ kn < 0 := by omega
        have t2' : decide (kn < 0) = false := decide_eq_false t2
        have HL1 := Lib.hid h1.len
        go_enter Try.func6, Try.ntmps6
        go_wp2_with fail
        rw [HW.out]
        refine (sane04_any _).mono ?_
        rintro e w1 ⟨rfl, hB1⟩
        replace HBX := HBX.below hB1
        replace hal := hal.on hB1
        clear h0W hB1
        obtain ⟨q0, q1, q2⟩ := Box3 HBX
        go_wp2_with fail
        go_loopw [11] (fun i wr => ∃ j : Nat, i = .int .i64 j ∧ j ≤ n1 ∧ wr = w1 ∧ Hid (∀ f ∈ more.take j, kn < f.kn)) (fun i _ => n1 - (intOf i).toNat)
        case atStart => exact ⟨0, rfl, by omega, by first | trivial | rfl, Lib.hid (by simp)⟩
        case round =>
          obtain ⟨j, rfl, hj, rfl, HM⟩ := hrel
          by_cases hlt : j < n1
          · obtain ⟨b1, o1, rfl, hb1⟩ := h1.at' (by omega)
            obtain ⟨x, hx⟩ := h1.get hlt
            obtain ⟨e0, e1, e2, e3, e4, e5, e6, e7⟩ := (h1.below hal).fact hx
            have s0 : (0 : Int) ≤ (j : Int) := by omega
            have s1 : (j : Int) < (n1 : Int) := by omega
            have HX := Lib.hid hx
            clear hx
            by_cases hkk : x.kn ≤ kn
            · go_wp2_with fail
              go_ret
              exact ⟨rfl, hal⟩
            · go_wp2_with fail
              go_roundw
              case rel => exact ⟨j + 1, by go_num, by omega, by first | trivial | rfl, Lib.hid (by
                intro f hf
                rw [List.take_add_one, HX.out] at hf
                rcases List.mem_append.1 hf with hf | hf
                · exact HM.out f hf
                · simp at hf; subst hf; omega)⟩
              case measure => simp [intOf]; omega
          · obtain rfl : j = n1 := by omega
            have HMM : Hid (∀ f ∈ more, kn < f.kn) := Lib.hid (by
              intro f hf
              exact HM.out f (by rw [List.take_of_length_le (by rw [HL1.out]; omega)]; exact hf))
            clear HM hlt hj
            obtain ⟨i28, hi28, hz280, hz281, hz282⟩ := info8
            have h0c := h0.cap
            have h1c := h1.cap
            have hnil : (wr.alloc (.cells #[] 28)).ownsRow wr.heap.size 28 8 (.slice (some ⟨wr.heap.size, 0, none⟩) 0 0) 0 [] := OwnSL.made0 encF 8 wr 28 wr.heap.size (Nat.le_refl _)
            obtain ⟨wk, hwk, hbk⟩ : ∃ wk, wr.alloc (.cells #[] 28) = wk ∧ Below wr.heap.size wr wk := ⟨_, rfl, (Below.refl _ _).alloc (Nat.le_refl _) _⟩
            rw [hwk] at hnil
            have hnl := World.ownsRow.lt hnil
            have hKC := Lib.hid (fun (w' : World) (hb : Below wr.heap.size wr w') => Box3 (HBX.below hb))
            clear q0 q1 q2
            go_wp2_with (first
              | (at_builtin; refine wpList_append_any rfl _ _ 22 rfl wr.heap.size 28 i28 _ 8 64 Try.underlying22 hi28 hz280 hz281 hz282 rfl (by decide) _ _ _ hnil rfl a0 n0 c0 (l.flatMap encF) rfl (h0.below (hal.on hbk)).none0 (by rw [flat_len encF_len, h0.len]) (h0.below (hal.on hbk)).news (flatF_one l) (by unfold maxLen; omega) (by omega) hbk.size ?_; simp only [Nat.zero_add, List.nil_append]; intro v5 w5 hown5 hgrow5 hfr5; have hB5 : Below wr.heap.size wr w5 := hbk.grown hgrow5 hbk.size (fun q e => (hnl q e).1); obtain ⟨a5, c5, rfl, _, _⟩ := own_slice hown5; have hnl5 := World.ownsRow.lt hown5)
              | (at_builtin; refine wpList_append_any rfl _ _ 22 rfl wr.heap.size 28 i28 _ 8 64 Try.underlying22 hi28 hz280 hz281 hz282 rfl (by decide) _ _ _ hown5 rfl a1 j c1 (more.flatMap encF) rfl (h1.below (hal.on hB5)).none0 (by rw [flat_len encF_len, h1.len]) (h1.below (hal.on hB5)).news (flatF_one more) (by unfold maxLen; omega) (by omega) hB5.size ?_; intro v6 w6 hown6 hgrow6 hfr6; have hB6 : Below wr.heap.size wr w6 := hB5.grown hgrow6 hB5.size (fun q e => (hnl5 q e).1); obtain ⟨a6, c6, rfl, _, _⟩ := own_slice hown6; obtain ⟨q0, q1, q2⟩ := hKC.out _ hB6))
            have hX : SL encF 8 w6 a6 (n0 + j) c6 (l ++ more) := by
              have hO6 : OwnSL encF 8 w6 wr.heap.size 28 (.slice a6 (n0 + j) c6) (l ++ more) := by
                unfold OwnSL; rw [List.length_append, h0.len, HL1.out, List.flatMap_append]; exact hown6
              exact hO6.sl2 encF_len (by rw [List.length_append, h0.len, HL1.out])
            obtain ⟨nx, hnx⟩ : ∃ nx, n0 + j = nx := ⟨_, rfl⟩
            have hnx16 : nx ≤ 16 := by omega
            rw [hnx] at hX ⊢
            have HXL := Lib.hid hX.len
            have hB6' : Below W.heap.size W w6 := hal.on hB6
            clear hown6 hgrow6 hfr6 hown5 hgrow5 hfr5 hB5 hnl5 hnil hwk hbk hnl hKC q0 q1 q2 HBX hB6 hnx
            obtain ⟨i3k, hi3, hz30, hz31, hz32⟩ := info3k
            have hown := own_one w6 k
            obtain ⟨wq, hwq, hbq⟩ : ∃ wq, w6.alloc (.cells #[.int .i64 k.kd, .int .i64 k.sb, .int .i64 k.ob] 24) = wq ∧ Below w6.heap.size w6 wq := ⟨_, rfl, (Below.refl _ _).alloc (Nat.le_refl _) _⟩
            rw [hwq] at hown ⊢
            go_loopw [13, 14] (fun v i wz => ∃ (p : Nat) (a : Option Addr) (c : Nat), i = .int .i64 p ∧ p ≤ nx ∧ v = .slice a (p + 1) c ∧ wz.ownsRow w6.heap.size 24 3 (.slice a (p + 1) c) (p + 1) ((keysTo (l ++ more) k p).flatMap encK) ∧ Below w6.heap.size w6 wz) (fun _ i _ => nx - (intOf i).toNat)
            case atStart => exact ⟨0, _, _, rfl, by omega, rfl, by simpa [keysTo] using hown, hbq⟩
            case round =>
              clear hown hwq
              obtain ⟨p, ka, kc, rfl, hp, rfl, hOz, hBz⟩ := hrel
              obtain ⟨wz, rfl⟩ : ∃ wz, wz = wr := ⟨_, rfl⟩
              by_cases hltp : p < nx
              · obtain ⟨xb, xo, rfl, hxb⟩ := hX.at' (by omega)
                obtain ⟨y, hy⟩ := hX.get hltp
                obtain ⟨e0, e1, e2, _⟩ := (hX.below hBz).fact hy
                have s0 : (0 : Int) ≤ (p : Int) := by omega
                have s1 : (p : Int) < (nx : Int) := by omega
                have HY := Lib.hid (keysTo_succ k hy)
                have hlz := World.ownsRow.lt hOz
                have hsz := hBz.size
                clear hy
                go_wp2_with (at_builtin; refine wpList_append_own2 _ rfl _ _ 37 rfl w6.heap.size 24 i3k _ 3 24 Try.underlying37 hi3 hz30 hz31 hz32 rfl (by decide) _ _ _ (hOz.alloc _) rfl ⟨_, 0, none⟩ 1 1 (encK y.key) rfl rfl (new3 _ y.key _) (encK_one _) (by unfold maxLen; omega) (by omega) (by simp; omega) ?_; intro v' w' hown' hgrow' hfr'; obtain ⟨ka', kc', rfl, _, _⟩ := own_slice hown')
                go_roundw
                case rel => exact ⟨p + 1, ka', kc', by go_num, by omega, rfl, by rw [HY.out, List.flatMap_append]; simpa using hown', (hBz.alloc hsz _).grown hgrow' (by simp; omega) (fun q e => (hlz q e).1)⟩
                case measure => simp [intOf]; omega
              · obtain rfl : nx = p := by omega
                have hKS : SL encK 3 wz ka (nx + 1) kc (keysTo (l ++ more) k nx) := by
                  have hO6 : OwnSL encK 3 wz w6.heap.size 24 (.slice ka (nx + 1) kc) (keysTo (l ++ more) k nx) := by
                    unfold OwnSL; rw [keysTo_len (by rw [HXL.out]; exact Nat.le_refl _)]; exact hOz
                  exact hO6.sl2 encK_len (keysTo_len (by rw [HXL.out]; exact Nat.le_refl _))
                have HAV : Hid ((∀ kk, atV (l ++ more) kk dy kn = atV l kk dy kn) ∧ (∀ kk, atOk (l ++ more) kk dy kn = atOk l kk dy kn)) := Lib.hid ⟨fun kk => by unfold atV; rw [at_more l more kk dy HMM.out (by omega)], fun kk => by unfold atOk; rw [at_more l more kk dy HMM.out (by omega)]⟩
                have hX5 : SL encF 8 wz a6 nx c6 (l ++ more) := hX.below hBz
                have hal5 : Below W.heap.size W wz := hB6'.on hBz
                clear hX hBz hOz hltp hp
                go_wp2_with fail
                go_loopw [15] (fun i wu => ∃ q : Nat, i = .int .i64 q ∧ q ≤ nx + 1 ∧ Below wz.heap.size wz wu) (fun i _ => nx + 1 - (intOf i).toNat)
                case atStart => exact ⟨0, rfl, by omega, Below.refl _ _⟩
                case round =>
                  obtain ⟨q, rfl, hq, hB⟩ := hrel
                  by_cases hltq : q < nx + 1
                  · have s1 : (q : Int) < (nx + 1 : Nat) := by omega
                    have s0 : (0 : Int) ≤ (q : Int) := by omega
                    obtain ⟨kb, ko, rfl, hkb⟩ := hKS.at' (by omega)
                    obtain ⟨kk, hkk⟩ := hKS.get hltq
                    obtain ⟨e0, e1, e2⟩ := (hKS.below hB).keyC hkk
                    go_wp2_with fail
                    refine (at_any _ _ c0 l kk dy kn wr (h0.below (hal5.on hB))).mono ?_
                    rintro e w7 ⟨rfl, hb⟩
                    replace hB := hB.on hb
                    clear hb e0 e1 e2
                    obtain ⟨e0, e1, e2⟩ := (hKS.below hB).keyC hkk
                    go_wp2_with fail
                    refine (at_any _ _ c6 (l ++ more) kk dy kn w7 (hX5.below hB)).mono ?_
                    rintro e w8 ⟨rfl, hb⟩
                    replace hB := hB.on hb
                    clear hb e0 e1 e2
                    rw [HAV.out.1 kk, HAV.out.2 kk]
                    have hA3 : At3 w8 kb (ko + q * 3) kk := (hKS.below hB).keyC hkk
                    obtain ⟨av, hav⟩ : ∃ av, atV l kk dy kn = av := ⟨_, rfl⟩
                    obtain ⟨ao, hao⟩ : ∃ ao, atOk l kk dy kn = ao := ⟨_, rfl⟩
                    rw [hav, hao]
                    have s2 : (av != av) = false := by simp
                    have s3 : (ao != ao) = false := by simp
                    have HP := Lib.hid (fun (V : World) (hV : Below w8.heap.size w8 V) => (points_any _ _ c0 l kk 0 40 kn V (h0.below ((hal5.on hB).on hV))).mono (fun e w' h => RetPts.of h))
                    have HR := Lib.hid (fun (V : World) (hV : Below w8.heap.size w8 V) => (points_more l more kk 0 40 HMM.out V ((hX5.below hB).below hV)))
                    clear hav hao hkk
                    go_wp2_with fail
                    go_region_held3 (fun w' => (w'.cell? ⟨kb, ko + q * 3, none⟩ = some (.int .i64 kk.kd) ∧ w'.cell? ⟨kb, ko + q * 3 + 1, none⟩ = some (.int .i64 kk.sb) ∧ w'.cell? ⟨kb, ko + q * 3 + 2, none⟩ = some (.int .i64 kk.ob)) ∧ Below w8.heap.size w8 w')
                      (first | exact ⟨hA3, (Below.refl _ _).drew⟩ | exact keep3K (by assumption) (by assumption) | exact keep3K (by assumption) (Below.drewN0 _ _))
                      (first | (go_at_call 21; ((with_reducible refine (HP.out _ (by go_split_ands; assumption)).mono ?_); rintro e w' ⟨pa, pn, pc, rfl, hS1, hb⟩)) | (go_at_call 21; ((with_reducible refine (HR.out _ (by go_split_ands; assumption)).mono ?_); rintro e w' ⟨pa', pn', pc', rfl, hS2, hb⟩)) | (go_at_call 20; refine (samePts_true _ _ _ _ _ _ _ _ (by first | assumption | exact SL.below (by assumption) (by assumption)) (by first | assumption | exact SL.below (by assumption) (by assumption))).mono ?_; rintro e w' ⟨rfl, q_1, rfl⟩))
                    have hF : Below wz.heap.size wz (w'.drewN q_1) := hB.on (‹_ ∧ Below w8.heap.size w8 (w'.drewN q_1)›).2
                    go_wp2_with fail
                    go_roundw
                    case rel => exact ⟨q + 1, by go_num, by omega, hF⟩
                    case measure => simp [intOf]; omega
                  · obtain rfl : nx + 1 = q := by omega
                    replace hal5 := hal5.on hB
                    have hX7 := hX5.below hB
                    clear hKS hX5 hB HAV hltq hq
                    go_wp2_with fail
                    refine (upto_any _ _ c6 (l ++ more) kn wr hX7 (by omega)).mono ?_
                    rintro e w2 ⟨xv, rfl, hO, hB⟩
                    rw [upto_more l more HMM.out] at hO
                    obtain ⟨ua, uc, rfl, hU⟩ := hO.sl encF_len
                    replace hal5 := hal5.on hB
                    replace hX7 := hX7.below hB
                    clear hB hO
                    obtain ⟨un, hun⟩ : ∃ un, (uptoL l kn).length = un := ⟨_, rfl⟩
                    rw [hun] at hU ⊢
                    go_wp2_with fail
                    refine (upto_any _ _ c0 l kn w2 (h0.below hal5) (by omega)).mono ?_
                    rintro e w3 ⟨xv, rfl, hO, hB⟩
                    obtain ⟨ua', uc', rfl, hU'⟩ := hO.sl encF_len
                    replace hal5 := hal5.on hB
                    replace hX7 := hX7.below hB
                    replace hU := hU.below hB
                    clear hB hO
                    rw [hun] at hU' ⊢
                    clear hun
                    go_wp2_with fail
                    refine (same_true _ _ _ _ _ _ _ w3 hU hU').mono ?_
                    rintro e w4 ⟨rfl, hB⟩
                    replace hal5 := hal5.on hB
                    replace hX7 := hX7.below hB
                    clear hB hU hU'
                    go_wp2_with fail
                    refine (changed_any _ _ c6 (l ++ more) 0 kn w4 hX7 (by omega) (fun f hf => by rcases List.mem_append.1 hf with hf | hf; exact (HOK.out f hf).key; exact (HOK1.out f hf).key)).mono ?_
                    rintro e w5 hr
                    rw [changed_more l more HMM.out hk0 (Int.le_refl _)] at hr
                    obtain ⟨ca, cn, cc, rfl, hC, hB⟩ := hr.out
                    replace hal5 := hal5.on hB
                    clear hB hr hX7
                    go_wp2_with fail
                    refine (changed_any _ _ c0 l 0 kn w5 (h0.below hal5) (by omega) (fun f hf => (HOK.out f hf).key)).mono ?_
                    rintro e w6' hr
                    obtain ⟨ca', cn', cc', rfl, hC', hB⟩ := hr.out
                    replace hal5 := hal5.on hB
                    replace hC := hC.below hB
                    clear hB hr
                    go_wp2_with fail
                    refine (sameD_true _ _ _ _ _ _ _ w6' hC hC').mono ?_
                    rintro e w7 ⟨rfl, hB⟩
                    replace hal5 := hal5.on hB
                    go_wp2_with fail
                    go_ret
                    exact ⟨rfl, hal5⟩
      · have t2 : kn < 0 := by omega
        go_enter Try.func6, Try.ntmps6
        go_wp2_with fail
        rw [HW.out]
        refine (sane04_any _).mono ?_
        rintro e w1 ⟨rfl, hB1⟩
        replace HBX := HBX.below hB1
        replace hal := hal.on hB1
        clear h0W hB1
        go_wp2_with fail
        go_ret
        exact ⟨rfl, hal⟩
    · have t1 : (6 : Int) < (n1 : Int) := by omega
      go_enter Try.func6, Try.ntmps6
      go_wp2_with fail
      rw [HW.out]
      refine (sane04_any _).mono ?_
      rintro e w1 ⟨rfl, hB1⟩
      replace HBX := HBX.below hB1
      replace hal := hal.on hB1
      clear h0W hB1
      go_wp2_with fail
      go_ret
      exact ⟨rfl, hal⟩
  · have t0 : (10 : Int) < (n0 : Int) := by omega
    go_enter Try.func6, Try.ntmps6
    go_wp2_with fail
    rw [HW.out]
    refine (sane04_any _).mono ?_
    rintro e w1 ⟨rfl, hB1⟩
    replace HBX := HBX.below hB1
    replace hal := hal.on hB1
    clear h0W hB1
    go_wp2_with fail
    go_ret
    exact ⟨rfl, hal⟩

set_option maxRecDepth 100000 in
set_option maxHeartbeats 2000000 in
theorem lifted_Past (os : Os) (started : os.Started) (H : Type) (enc : TypeId × Value → H) :
    ReturnsInHanded {} Try.checked os 6 .any (Rows.factsPastSpec.pre6 enc Try.prog Try.f6 Rows.factsPastRow.domain false) (Rows.factsPastSpec.post enc Try.prog Try.f6 false true false false) := by
  refine returnsInHanded_of_change (C := Try.checked) row_own started (by kernel_rfl) Try.func6
    (ChangeSpec.witness6 (enc := enc) (C := Try.checked) false ⟨#[], #[.slice none 0 0, .slice none 0 0, .agg #[.int .i64 0, .int .i64 0, .int .i64 0], .int .i64 0, .int .i64 0], []⟩ 8 (by kernel_rfl) (by kernel_rfl) (by kernel_rfl) (by kernel_rfl)) ?_
  intro W base args ds gs before hval0 hW _ _
  have hval : ∀ (j : Nat) t v, Try.f6.params[j]? = some t → args[j]? = some v → Value.okWide Try.prog W .any base t v := hval0
  have hW' := hW
  obtain ⟨p, q, hA0, hV, rfl, _, _⟩ := hW
  have hA : DataW.TrodAll enc Try.prog W 0 (fun _ => true) true Try.f6.params.toList args.toList ds p := hA0
  rw [Try.params6] at hA hval
  obtain ⟨v0, v1, v2, v3, v4, d0, d1, d2, d3, d4, p0, p1, p2, p3, p4, rfl, rfl, rfl, h0, h1, h2, h3, h4⟩ := trodAll_five hA
  obtain ⟨rfl, rfl⟩ := trodVars_none hV
  obtain ⟨a0, n0, c0, l, rfl, h0', hok⟩ := open_facts (hval 0 22 v0 rfl rfl) h0
  obtain ⟨a1, n1, c1, more, rfl, h1', hok1⟩ := open_facts (hval 1 22 v1 rfl rfl) h1
  obtain ⟨k, rfl, hokk⟩ := open_key (hval 2 24 v2 rfl rfl) h2
  obtain ⟨x3, rfl, rfl, rfl, _⟩ := open_int Try.underlying3 (hval 3 3 v3 rfl rfl) h3
  obtain ⟨x4, rfl, rfl, rfl, _⟩ := open_int Try.underlying3 (hval 4 3 v4 rfl rfl) h4
  refine (lawPast_any a0 a1 n0 c0 n1 c1 l more k x3 x4 W h0' h1' hok hok1).mono fun e W' ⟨he, hb⟩ => ?_
  subst he
  exact ⟨_, rfl, law_post hW' rfl rfl (by kernel_rfl) rfl hb⟩
set_option maxHeartbeats 2000000 in
theorem closed_Past : joinedFacts Try.prog 6 Try.f6 Rows.factsPastSpec Rows.factsPastRow = true := by
  unfold joinedFacts
  refine bt (bt (bt (bt (bt (bt (bt (bt (bt (bt (bt (bt (bt (bt (bt (bt (bt (bt (bt (bt (bt (bt (bt (bt (bt (bt (bt (bt (bt (bt (bt ?a0 ?a1) ?a2) ?a3) ?a4) ?a5) ?a6) ?a7) ?a8) ?a9) ?a10) ?a11) ?a12) ?a13) ?a14) ?a15) ?a16) ?a17) ?a18) ?a19) ?a20) ?a21) ?a22) ?a23) ?a24) ?a25) ?a26) ?a27) ?a28) ?a29) ?a30) ?a31
  case a25 => exact prog_enter
  case a26 => exact prog_lifts
  case a27 => exact prog_make
  all_goals as_aux_lemma => kernel_rfl
theorem factsPast_holds : Rows.FactsPastSaid :=
  OpenClaim.holds_of_wide 6 Try.f6 rfl rfl rfl rfl rfl rfl rfl ⟨rfl, rfl, rfl, rfl, rfl⟩ rfl rfl rfl rfl rfl (by kernel_rfl) Try.func6 closed_Past
    (of_decide_eq_true (by kernel_rfl)) (by unfold Func.isWrapper; rw [if_neg (of_decide_eq_false (by kernel_rfl))]; exact ⟨rfl, rfl⟩)
    (fun os started H enc _ => lifted_Past os started H enc)
#print axioms factsPast_holds
end Go.Proofs.Ytfhekhjojdhmhaa
