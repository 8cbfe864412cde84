/- The last fact that is known counts (law04.FactsCounts), at every input. -/
import Derived.Test.YtfhekhjojdhmhaaSane4
import Derived.Test.YtfhekhjojdhmhaaRow4
import Derived.Test.YtfhekhjojdhmhaaHeadF
import Derived.Test.YtfhekhjojdhmhaaL4Pk
import Derived.Test.YtfhekhjojdhmhaaL4CtM
import Derived.Test.YtfhekhjojdhmhaaL4UpM
import Derived.Deep.RegionHeld3
import Derived.WalkKit
import Derived.WalkSpells
import Derived.WalkLawsBesides
import Derived.Deep.LoopGhost
import Derived.Deep.QuietTactic
import Derived.BigQuiet
import Derived.StillTailTactics
import Derived.Lib.Hide
import Derived.Outline
import Derived.Lib.QuietBelow
namespace Go.Proofs.Ytfhekhjojdhmhaa
open Go.RowKit

theorem pass_key {l : List Fact} {k : Key} {day kn : Int} {i : Nat} {x : Fact} (hx : l[i]? = some x) (h : cB k day kn x = false) : passAt l k day kn i = false := by unfold passAt; rw [hx]; exact h
theorem pass_on {l : List Fact} {k : Key} {day kn : Int} {i : Nat} {x : Fact} (hx : l[i]? = some x) (h : cB k day kn x = true) : passAt l k day kn i = true := by unfold passAt; rw [hx]; exact h
theorem bad_off {l : List Fact} {k : Key} {day kn : Int} {i j : Nat} {y : Fact} (hy : l[j]? = some y) (h : cB k day kn y = false) : badB l k day kn i j = false := by
  unfold badB; rw [hy]; cases l[i]? with
  | none => rfl
  | some x => simp [h]
theorem bad_on {l : List Fact} {k : Key} {day kn : Int} {i j : Nat} {x y : Fact} (hx : l[i]? = some x) (hy : l[j]? = some y) (h : cB k day kn y = true) : badB l k day kn i j = (befB x y || (decide (i < j) && !befB y x)) := by
  unfold badB; rw [hx, hy]; simp [h]
theorem cB_of (k : Key) (day kn : Int) (x : Fact) : cB k day kn x = (decide (x.key = k) && decide (x.kn ≤ kn) && (decide (x.vf ≤ day) && decide (day < x.vt))) := rfl
theorem not_lt_dec {a b : Int} (h : decide (a < b) = true) : decide (b ≤ a) = false := by rw [decide_eq_true_eq] at h; rw [decide_eq_false_iff_not]; omega
theorem lt_dec {a b : Int} (h : decide (a < b) = false) : decide (b ≤ a) = true := by rw [decide_eq_false_iff_not] at h; rw [decide_eq_true_eq]; omega
theorem le_dec {a b : Int} (h : decide (a ≤ b) = false) : decide (b < a) = true := by rw [decide_eq_false_iff_not] at h; rw [decide_eq_true_eq]; omega
theorem not_le_dec {a b : Int} (h : decide (a ≤ b) = true) : decide (b < a) = false := by rw [decide_eq_true_eq] at h; rw [decide_eq_false_iff_not]; omega

set_option maxRecDepth 20000 in
set_option maxHeartbeats 8000000 in
theorem lawCounts_any (a0 : Option Addr) (n0 c0 : Nat) (l : List Fact) (k : Key) (dy kn : Int) (W : World) (h0 : SL encF 8 W a0 n0 c0 l) :
    Calls Try.prog 8 #[.slice a0 n0 c0, keyV k, .int .i64 dy, .int .i64 kn] W fun e w' => e = .returned (.bool true) ∧ Below W.heap.size W w' := by
  have hg := guard_key
  have HLEN := Lib.hid h0.len
  have hal : Below W.heap.size W (W.alloc (.cells #[.int .i64 k.kd, .int .i64 k.sb, .int .i64 k.ob] 24)) := (Below.refl _ _).alloc (Nat.le_refl _) _
  have HBX := Box.new W #[.int .i64 k.kd, .int .i64 k.sb, .int .i64 k.ob] 24
  obtain ⟨w0, hw0⟩ : ∃ w0, (W.alloc (.cells #[.int .i64 k.kd, .int .i64 k.sb, .int .i64 k.ob] 24)) = w0 := ⟨_, rfl⟩
  rw [hw0] at hal HBX
  have HW := Lib.hid hw0
  have h0W := h0.below hal
  cases hf : decide (l.length ≤ 30)
  · skip
    have HF := Lib.hid hf
    clear hf hw0
    go_enter Try.func8, Try.ntmps8
    go_wp2_with fail
    rw [HW.out]
    refine (sane04_any _).mono ?_
    rintro e w1 ⟨rfl, hB1⟩
    go_wp2_with fail
    have hc := few04_any _ _ c0 l w1 (h0W.below hB1)
    rw [HF.out] at hc
    refine hc.mono ?_
    rintro e w2 ⟨rfl, rfl⟩
    clear hc
    replace HBX := HBX.below hB1
    replace hal := hal.on hB1
    clear h0W hB1
    go_wp2_with fail
    go_ret
    exact ⟨rfl, hal⟩
  · have hn : n0 ≤ 30 := by have := of_decide_eq_true hf; rw [h0.len] at this; exact this
    have HF := Lib.hid hf
    clear hf hw0
    by_cases hp : 0 < n0
    · have t0 : (0 : Int) < (n0 : Int) := by omega
      go_enter Try.func8, Try.ntmps8
      go_wp2_with fail
      rw [HW.out]
      refine (sane04_any _).mono ?_
      rintro e w1 ⟨rfl, hB1⟩
      go_wp2_with fail
      have hc := few04_any _ _ c0 l w1 (h0W.below hB1)
      rw [HF.out] at hc
      refine hc.mono ?_
      rintro e w2 ⟨rfl, rfl⟩
      clear hc
      replace HBX := HBX.below hB1
      replace hal := hal.on hB1
      clear h0W hB1
      obtain ⟨q0, q1, q2⟩ := Box3 HBX
      obtain ⟨p, hpn, hpe⟩ := pick_key k.sb hp
      have t1 : (0 : Int) ≤ (bits BinOp.and IntKind.i64 k.sb 31).tmod (n0 : Int) := by omega
      have t2 : (bits BinOp.and IntKind.i64 k.sb 31).tmod (n0 : Int) < (n0 : Int) := by omega
      have t3 : ((bits BinOp.and IntKind.i64 k.sb 31).tmod (n0 : Int)).toNat = p := by omega
      clear hpe
      obtain ⟨b0, o0, rfl, hb0⟩ := h0.at' hp
      obtain ⟨x, hx⟩ := h0.get hpn
      obtain ⟨e0, e1, e2, _⟩ := (h0.below hal).fact hx
      have hbl := HBX.lt
      have gf : ∀ i, w2.frozen? ⟨W.heap.size, i, none⟩ = false := fun i => HBX.frozen i
      go_wp2_with fail
      have hal3 := ((hal.setCell (p := ⟨W.heap.size, 0, none⟩) (Nat.le_refl _) (.int .i64 x.kd)).setCell (p := ⟨W.heap.size, 1, none⟩) (Nat.le_refl _) (.int .i64 x.sb)).setCell (p := ⟨W.heap.size, 2, none⟩) (Nat.le_refl _) (.int .i64 x.ob)
      have HK := Box3 (k := x.key) (HBX.set3 (.int .i64 x.kd) (.int .i64 x.sb) (.int .i64 x.ob))
      obtain ⟨w3, hw3⟩ : ∃ w3, ((w2.setCell ⟨W.heap.size, 0, none⟩ (.int .i64 x.kd)).setCell ⟨W.heap.size, 1, none⟩ (.int .i64 x.sb)).setCell ⟨W.heap.size, 2, none⟩ (.int .i64 x.ob) = w3 := ⟨_, rfl⟩
      rw [hw3] at hal3 HK ⊢
      clear hw3 gf hbl e0 e1 e2 HBX hal
      obtain ⟨kk, hkk⟩ : ∃ kk, x.key = kk := ⟨_, rfl⟩
      obtain ⟨hkd, hsb, hob⟩ : x.kd = kk.kd ∧ x.sb = kk.sb ∧ x.ob = kk.ob := by rw [← hkk]; exact ⟨rfl, rfl, rfl⟩
      rw [hkk] at HK
      rw [hkd, hsb, hob]
      clear hkk hkd hsb hob hx
      refine (at_any _ _ c0 l kk dy kn w3 (h0.below hal3)).mono ?_
      rintro e w4 ⟨rfl, hB4⟩
      replace HK : K3 w4 W.heap.size kk := K3.below HK hB4
      replace hal3 := hal3.on hB4
      clear hB4
      obtain ⟨av, hav⟩ : ∃ av, atV l kk dy kn = av := ⟨_, rfl⟩
      obtain ⟨ao, hao⟩ : ∃ ao, atOk l kk dy kn = ao := ⟨_, rfl⟩
      rw [hav, hao]
      have HAV := Lib.hid hav
      have HAO := Lib.hid hao
      clear hav hao
      clear hp t0 t1 t2 t3 hpn
      go_wp2_with fail
      go_loopw [11, 12, 13] (fun m s i wr => ∃ (j : Nat) (mb sb : Bool), i = .int .i64 j ∧ m = .bool mb ∧ s = .bool sb ∧ j ≤ n0 ∧ Hid (mb = metTo l kk dy kn j) ∧ Hid (sb = someTo l kk dy kn j) ∧ Below w4.heap.size w4 wr) (fun _ _ i _ => n0 - (intOf i).toNat)
      case atStart => exact ⟨0, false, false, rfl, rfl, rfl, by omega, Lib.hid rfl, Lib.hid rfl, Below.refl _ _⟩
      case round =>
        obtain ⟨j, mb, sb, rfl, rfl, rfl, hj, HM, HS, hB⟩ := hrel
        by_cases hlt : j < n0
        · obtain ⟨x, hx⟩ := h0.get hlt
          obtain ⟨e0, e1, e2, e3, e4, e5, e6, e7⟩ := (h0.below (hal3.on hB)).fact hx
          obtain ⟨g0, g1, g2⟩ := K3.below HK hB
          have HX := Lib.hid hx
          have s0 : (0 : Int) ≤ (j : Int) := by omega
          have s1 : (j : Int) < (n0 : Int) := by omega
          clear hx
          have hE : ∀ w, (Op.equalIn 10000 24 (.agg #[.int .i64 x.kd, .int .i64 x.sb, .int .i64 x.ob]) (keyV kk)).run Try.prog w = .ok (decide (x.key = kk)) w := eqInD_key 9998 x.key kk
          cases t1 : decide (x.key = kk)
          · rw [t1] at hE
            have HP : Hid (passAt l kk dy kn j = false) := Lib.hid (pass_key HX.out (by rw [cB_of, t1]; rfl))
            clear t1
            as_aux_lemma =>
              go_wp2_with (go_quiet (fail))
              go_roundw
              case rel => exact ⟨j + 1, mb, sb, by go_num, rfl, rfl, by omega, Lib.hid (by rw [metTo_succ, HP.out, Bool.false_and, Bool.or_false]; exact HM.out), Lib.hid (by rw [someTo_succ, HP.out, Bool.or_false]; exact HS.out), hB.on (Below.drewN0 _ _)⟩
              case measure => simp [intOf]; omega
          · rw [t1] at hE
            have T1 := Lib.hid t1
            clear t1
            cases t2 : decide (dy < x.vf)
            · cases t3 : decide (x.vt ≤ dy)
              · cases t4 : decide (kn < x.kn)
                · have HP : Hid (cB kk dy kn x = true) := Lib.hid (by rw [cB_of, T1.out, lt_dec t2, le_dec t3, lt_dec t4]; rfl)
                  go_wp2_with (go_quiet (fail))
                  obtain ⟨wo, hwo⟩ : ∃ wo, wr.drewN nq = wo := ⟨_, rfl⟩
                  have hBo : Below w4.heap.size w4 wo := hwo ▸ hB.on (Below.drewN0 _ _)
                  rw [hwo]
                  clear hwo hE t2 t3 t4 e0 e1 e2 e3 e4 e5 e6 e7 g0 g1 g2
                  go_loopw [14, 15] (fun lv i wi => ∃ (q : Nat) (lb : Bool), i = .int .i64 q ∧ lv = .bool lb ∧ q ≤ n0 ∧ Hid (lb = lastTo l kk dy kn j q) ∧ Below wo.heap.size wo wi) (fun _ i _ => n0 - (intOf i).toNat)
                  case atStart => exact ⟨0, true, rfl, rfl, by omega, Lib.hid rfl, Below.refl _ _⟩
                  case round =>
                    obtain ⟨q, lb, rfl, rfl, hq, HL, hBi⟩ := hrel
                    have hA1 : At8 wr b0 (o0 + j * 8) x := (h0.below (hal3.on (hBo.on hBi))).fact HX.out
                    by_cases hlq : q < n0
                    · obtain ⟨y, hy⟩ := h0.get hlq
                      have hA2 : At8 wr b0 (o0 + q * 8) y := (h0.below (hal3.on (hBo.on hBi))).fact hy
                      have hA3 : K3 wr W.heap.size kk := K3.below HK (hBo.on hBi)
                      obtain ⟨e0, e1, e2, e3, e4, e5, e6, e7⟩ := hA1
                      have hA1 : At8 wr b0 (o0 + j * 8) x := ⟨e0, e1, e2, e3, e4, e5, e6, e7⟩
                      obtain ⟨d0, d1, d2, d3, d4, d5, d6, d7⟩ := hA2
                      have hA2 : At8 wr b0 (o0 + q * 8) y := ⟨d0, d1, d2, d3, d4, d5, d6, d7⟩
                      obtain ⟨g0, g1, g2⟩ := hA3
                      have hA3 : K3 wr W.heap.size kk := ⟨g0, g1, g2⟩
                      have HY := Lib.hid hy
                      have r0 : (0 : Int) ≤ (q : Int) := by omega
                      have r1 : (q : Int) < (n0 : Int) := by omega
                      clear hy
                      have hE : ∀ w, (Op.equalIn 10000 24 (.agg #[.int .i64 y.kd, .int .i64 y.sb, .int .i64 y.ob]) (keyV kk)).run Try.prog w = .ok (decide (y.key = kk)) w := eqInD_key 9998 y.key kk
                      cases q1 : decide (y.key = kk)
                      · rw [q1] at hE
                        have HQ : Hid (badB l kk dy kn j q = false) := Lib.hid (bad_off HY.out (by rw [cB_of, q1]; rfl))
                        clear q1
                        as_aux_lemma =>
                          go_wp2_with (go_quiet (fail))
                          go_roundw
                          case rel => exact ⟨q + 1, lb, by go_num, rfl, by omega, Lib.hid (by rw [lastTo_succ, HQ.out, Bool.not_false, Bool.and_true]; exact HL.out), hBi.on (Below.drewN0 _ _)⟩
                          case measure => simp [intOf]; omega
                      · rw [q1] at hE
                        have Q1 := Lib.hid q1
                        clear q1
                        cases q2 : decide (y.vf ≤ dy)
                        · have HQ : Hid (badB l kk dy kn j q = false) := Lib.hid (bad_off HY.out (by rw [cB_of, q2]; simp))
                          as_aux_lemma =>
                            go_wp2_with (go_quiet (fail))
                            go_roundw
                            case rel => exact ⟨q + 1, lb, by go_num, rfl, by omega, Lib.hid (by rw [lastTo_succ, HQ.out, Bool.not_false, Bool.and_true]; exact HL.out), hBi.on (Below.drewN0 _ _)⟩
                            case measure => simp [intOf]; omega
                        · cases q3 : decide (dy < y.vt)
                          · have HQ : Hid (badB l kk dy kn j q = false) := Lib.hid (bad_off HY.out (by rw [cB_of, q3]; simp))
                            as_aux_lemma =>
                              go_wp2_with (go_quiet (fail))
                              go_roundw
                              case rel => exact ⟨q + 1, lb, by go_num, rfl, by omega, Lib.hid (by rw [lastTo_succ, HQ.out, Bool.not_false, Bool.and_true]; exact HL.out), hBi.on (Below.drewN0 _ _)⟩
                              case measure => simp [intOf]; omega
                          · cases q4 : decide (y.kn ≤ kn)
                            · have HQ : Hid (badB l kk dy kn j q = false) := Lib.hid (bad_off HY.out (by rw [cB_of, q4]; simp))
                              as_aux_lemma =>
                                go_wp2_with (go_quiet (fail))
                                go_roundw
                                case rel => exact ⟨q + 1, lb, by go_num, rfl, by omega, Lib.hid (by rw [lastTo_succ, HQ.out, Bool.not_false, Bool.and_true]; exact HL.out), hBi.on (Below.drewN0 _ _)⟩
                                case measure => simp [intOf]; omega
                            · have HC : Hid (cB kk dy kn y = true) := Lib.hid (by rw [cB_of, Q1.out, q2, q3, q4]; rfl)
                              have hb1 := before_any x y
                              have hb2 := before_any y x
                              have HBO := Lib.hid (bad_on (l := l) (k := kk) (day := dy) (kn := kn) (i := j) (j := q) HX.out HY.out HC.out)
                              have HB1 := Lib.hid hb1
                              have HB2 := Lib.hid hb2
                              clear hb1 hb2 e0 e1 e2 e3 e4 e5 e6 e7 d0 d1 d2 d3 d4 d5 d6 d7 g0 g1 g2
                              as_aux_lemma =>
                                go_wp2_with fail
                                refine wp_region_held_drew (S := fun w' => (w'.cell? ⟨b0, o0 + j * 8, none⟩ = some (.int .i64 x.kd) ∧ w'.cell? ⟨b0, o0 + j * 8 + 1, none⟩ = some (.int .i64 x.sb) ∧ w'.cell? ⟨b0, o0 + j * 8 + 2, none⟩ = some (.int .i64 x.ob) ∧ w'.cell? ⟨b0, o0 + j * 8 + 3, none⟩ = some (.int .i64 x.val) ∧ w'.cell? ⟨b0, o0 + j * 8 + 4, none⟩ = some (.int .i64 x.vf) ∧ w'.cell? ⟨b0, o0 + j * 8 + 5, none⟩ = some (.int .i64 x.vt) ∧ w'.cell? ⟨b0, o0 + j * 8 + 6, none⟩ = some (.int .i64 x.kn) ∧ w'.cell? ⟨b0, o0 + j * 8 + 7, none⟩ = some (.int .i64 x.no)) ∧ (w'.cell? ⟨b0, o0 + q * 8, none⟩ = some (.int .i64 y.kd) ∧ w'.cell? ⟨b0, o0 + q * 8 + 1, none⟩ = some (.int .i64 y.sb) ∧ w'.cell? ⟨b0, o0 + q * 8 + 2, none⟩ = some (.int .i64 y.ob) ∧ w'.cell? ⟨b0, o0 + q * 8 + 3, none⟩ = some (.int .i64 y.val) ∧ w'.cell? ⟨b0, o0 + q * 8 + 4, none⟩ = some (.int .i64 y.vf) ∧ w'.cell? ⟨b0, o0 + q * 8 + 5, none⟩ = some (.int .i64 y.vt) ∧ w'.cell? ⟨b0, o0 + q * 8 + 6, none⟩ = some (.int .i64 y.kn) ∧ w'.cell? ⟨b0, o0 + q * 8 + 7, none⟩ = some (.int .i64 y.no)) ∧ (w'.cell? ⟨W.heap.size, 0, none⟩ = some (.int .i64 kk.kd) ∧ w'.cell? ⟨W.heap.size, 1, none⟩ = some (.int .i64 kk.sb) ∧ w'.cell? ⟨W.heap.size, 2, none⟩ = some (.int .i64 kk.ob)) ∧ Below wr.heap.size wr w') (by kernel_rfl) ⟨hA1, hA2, hA3, (Below.refl _ _).drew⟩ (fun hS => ?_)
                                refine wpAnyH_take (i := 0) (v := ?_) rfl (by kernel_rfl) (by kernel_rfl) (by kernel_rfl) (fun _ _ _ h => h) (Or.inl ⟨by rfl, ?_⟩) (by assumption) ?_
                                rotate_left
                                focus
                                  intro w hSw
                                  (try dsimp only at hSw)
                                  (try go_split_ands)
                                  go_simp
                                  try with_reducible rfl
                                try simp only [Act.put, List.getElem_toArray, List.getElem_cons_zero, List.setIfInBounds_toArray, List.set_cons_zero, List.set_cons_succ]
                                refine wpAnyH_take (i := 1) (v := ?_) rfl (by kernel_rfl) (by kernel_rfl) (by kernel_rfl) (fun _ _ _ h => h) (Or.inl ⟨by rfl, ?_⟩) (by assumption) ?_
                                rotate_left
                                focus
                                  intro w hSw
                                  (try dsimp only at hSw)
                                  (try go_split_ands)
                                  go_simp
                                  try with_reducible rfl
                                try simp only [Act.put, List.getElem_toArray, List.getElem_cons_succ, List.getElem_cons_zero, List.setIfInBounds_toArray, List.set_cons_zero, List.set_cons_succ]
                                refine wpAnyH_take (i := 2) (v := ?_) rfl (by kernel_rfl) (by kernel_rfl) (by kernel_rfl) (fun _ _ _ h => h) (Or.inl ⟨by rfl, ?_⟩) (by assumption) ?_
                                rotate_left
                                focus
                                  intro w hSw
                                  (try dsimp only at hSw)
                                  (try go_split_ands)
                                  go_simp
                                  try with_reducible rfl
                                try simp only [Act.put, List.getElem_toArray, List.getElem_cons_succ, List.getElem_cons_zero, List.setIfInBounds_toArray, List.set_cons_zero, List.set_cons_succ]
                                refine wpAnyH_take (i := 3) (v := ?_) rfl (by kernel_rfl) (by kernel_rfl) (by kernel_rfl) (fun _ _ _ h => h) (Or.inl ⟨by rfl, ?_⟩) (by assumption) ?_
                                rotate_left
                                focus
                                  intro w hSw
                                  (try dsimp only at hSw)
                                  (try go_split_ands)
                                  go_simp
                                  try with_reducible rfl
                                try simp only [Act.put, List.getElem_toArray, List.getElem_cons_succ, List.getElem_cons_zero, List.setIfInBounds_toArray, List.set_cons_zero, List.set_cons_succ]
                                refine wpAnyH_take (i := 4) (v := ?_) rfl (by kernel_rfl) (by kernel_rfl) (by kernel_rfl) (fun _ _ _ h => h) (Or.inl ⟨by rfl, ?_⟩) (by assumption) ?_
                                rotate_left
                                focus
                                  intro w hSw
                                  (try dsimp only at hSw)
                                  (try go_split_ands)
                                  go_simp
                                  try with_reducible rfl
                                try simp only [Act.put, List.getElem_toArray, List.getElem_cons_succ, List.getElem_cons_zero, List.setIfInBounds_toArray, List.set_cons_zero, List.set_cons_succ]
                                refine wpAnyH_take (i := 5) (v := ?_) rfl (by kernel_rfl) (by kernel_rfl) (by kernel_rfl) (fun _ _ _ h => h) (Or.inl ⟨by rfl, ?_⟩) (by assumption) ?_
                                rotate_left
                                focus
                                  intro w hSw
                                  (try dsimp only at hSw)
                                  (try go_split_ands)
                                  go_simp
                                  try with_reducible rfl
                                try simp only [Act.put, List.getElem_toArray, List.getElem_cons_succ, List.getElem_cons_zero, List.setIfInBounds_toArray, List.set_cons_zero, List.set_cons_succ]
                                refine wpAnyH_take (i := 6) (v := ?_) rfl (by kernel_rfl) (by kernel_rfl) (by kernel_rfl) (fun _ _ _ h => h) (Or.inl ⟨by rfl, ?_⟩) (by assumption) ?_
                                rotate_left
                                focus
                                  intro w hSw
                                  (try dsimp only at hSw)
                                  (try go_split_ands)
                                  go_simp
                                  try with_reducible rfl
                                try simp only [Act.put, List.getElem_toArray, List.getElem_cons_succ, List.getElem_cons_zero, List.setIfInBounds_toArray, List.set_cons_zero, List.set_cons_succ]
                                refine wpAnyH_take (i := 7) (v := ?_) rfl (by kernel_rfl) (by kernel_rfl) (by kernel_rfl) (fun _ _ _ h => h) (Or.inl ⟨by rfl, ?_⟩) (by assumption) ?_
                                rotate_left
                                focus
                                  intro w hSw
                                  (try dsimp only at hSw)
                                  (try go_split_ands)
                                  go_simp
                                  try with_reducible rfl
                                try simp only [Act.put, List.getElem_toArray, List.getElem_cons_succ, List.getElem_cons_zero, List.setIfInBounds_toArray, List.set_cons_zero, List.set_cons_succ]
                                refine wpAnyH_take (i := 8) (v := ?_) rfl (by kernel_rfl) (by kernel_rfl) (by kernel_rfl) (fun _ _ _ h => h) (Or.inl ⟨by rfl, ?_⟩) (by assumption) ?_
                                rotate_left
                                focus
                                  intro w hSw
                                  (try dsimp only at hSw)
                                  (try go_split_ands)
                                  go_simp
                                  try with_reducible rfl
                                try simp only [Act.put, List.getElem_toArray, List.getElem_cons_succ, List.getElem_cons_zero, List.setIfInBounds_toArray, List.set_cons_zero, List.set_cons_succ]
                                refine wpAnyH_take (i := 9) (v := ?_) rfl (by kernel_rfl) (by kernel_rfl) (by kernel_rfl) (fun _ _ _ h => h) (Or.inl ⟨by rfl, ?_⟩) (by assumption) ?_
                                rotate_left
                                focus
                                  intro w hSw
                                  (try dsimp only at hSw)
                                  (try go_split_ands)
                                  go_simp
                                  try with_reducible rfl
                                try simp only [Act.put, List.getElem_toArray, List.getElem_cons_succ, List.getElem_cons_zero, List.setIfInBounds_toArray, List.set_cons_zero, List.set_cons_succ]
                                refine wpAnyH_take (i := 10) (v := ?_) rfl (by kernel_rfl) (by kernel_rfl) (by kernel_rfl) (fun _ _ _ h => h) (Or.inl ⟨by rfl, ?_⟩) (by assumption) ?_
                                rotate_left
                                focus
                                  intro w hSw
                                  (try dsimp only at hSw)
                                  (try go_split_ands)
                                  go_simp
                                  try with_reducible rfl
                                try simp only [Act.put, List.getElem_toArray, List.getElem_cons_succ, List.getElem_cons_zero, List.setIfInBounds_toArray, List.set_cons_zero, List.set_cons_succ]
                                refine wpAnyH_take (i := 11) (v := ?_) rfl (by kernel_rfl) (by kernel_rfl) (by kernel_rfl) (fun _ _ _ h => h) (Or.inl ⟨by rfl, ?_⟩) (by assumption) ?_
                                rotate_left
                                focus
                                  intro w hSw
                                  (try dsimp only at hSw)
                                  (try go_split_ands)
                                  go_simp
                                  try with_reducible rfl
                                try simp only [Act.put, List.getElem_toArray, List.getElem_cons_succ, List.getElem_cons_zero, List.setIfInBounds_toArray, List.set_cons_zero, List.set_cons_succ]
                                refine wpAnyH_take (i := 12) (v := ?_) rfl (by kernel_rfl) (by kernel_rfl) (by kernel_rfl) (fun _ _ _ h => h) (Or.inl ⟨by rfl, ?_⟩) (by assumption) ?_
                                rotate_left
                                focus
                                  intro w hSw
                                  (try dsimp only at hSw)
                                  (try go_split_ands)
                                  go_simp
                                  try with_reducible rfl
                                try simp only [Act.put, List.getElem_toArray, List.getElem_cons_succ, List.getElem_cons_zero, List.setIfInBounds_toArray, List.set_cons_zero, List.set_cons_succ]
                                refine wpAnyH_take (i := 13) (v := ?_) rfl (by kernel_rfl) (by kernel_rfl) (by kernel_rfl) (fun _ _ _ h => h) (Or.inl ⟨by rfl, ?_⟩) (by assumption) ?_
                                rotate_left
                                focus
                                  intro w hSw
                                  (try dsimp only at hSw)
                                  (try go_split_ands)
                                  go_simp
                                  try with_reducible rfl
                                try simp only [Act.put, List.getElem_toArray, List.getElem_cons_succ, List.getElem_cons_zero, List.setIfInBounds_toArray, List.set_cons_zero, List.set_cons_succ]
                                refine wpAnyH_take (i := 14) (v := ?_) rfl (by kernel_rfl) (by kernel_rfl) (by kernel_rfl) (fun _ _ _ h => h) (Or.inl ⟨by rfl, ?_⟩) (by assumption) ?_
                                rotate_left
                                focus
                                  intro w hSw
                                  (try dsimp only at hSw)
                                  (try go_split_ands)
                                  go_simp
                                  try with_reducible rfl
                                try simp only [Act.put, List.getElem_toArray, List.getElem_cons_succ, List.getElem_cons_zero, List.setIfInBounds_toArray, List.set_cons_zero, List.set_cons_succ]
                                refine wpAnyH_take (i := 15) (v := ?_) rfl (by kernel_rfl) (by kernel_rfl) (by kernel_rfl) (fun _ _ _ h => h) (Or.inl ⟨by rfl, ?_⟩) (by assumption) ?_
                                rotate_left
                                focus
                                  intro w hSw
                                  (try dsimp only at hSw)
                                  (try go_split_ands)
                                  go_simp
                                  try with_reducible rfl
                                try simp only [Act.put, List.getElem_toArray, List.getElem_cons_succ, List.getElem_cons_zero, List.setIfInBounds_toArray, List.set_cons_zero, List.set_cons_succ]
                                refine wpAnyH_take (i := 16) (v := ?_) rfl (by kernel_rfl) (by kernel_rfl) (by kernel_rfl) (fun _ _ _ h => h) (Or.inl ⟨by rfl, ?_⟩) (by assumption) ?_
                                rotate_left
                                focus
                                  intro w hSw
                                  (try dsimp only at hSw)
                                  (try go_split_ands)
                                  go_simp
                                  try with_reducible rfl
                                try simp only [Act.put, List.getElem_toArray, List.getElem_cons_succ, List.getElem_cons_zero, List.setIfInBounds_toArray, List.set_cons_zero, List.set_cons_succ]
                                refine wpAnyH_take (i := 17) (v := ?_) rfl (by kernel_rfl) (by kernel_rfl) (by kernel_rfl) (fun _ _ _ h => h) (Or.inl ⟨by rfl, ?_⟩) (by assumption) ?_
                                rotate_left
                                focus
                                  intro w hSw
                                  (try dsimp only at hSw)
                                  (try go_split_ands)
                                  go_simp
                                  try with_reducible rfl
                                try simp only [Act.put, List.getElem_toArray, List.getElem_cons_succ, List.getElem_cons_zero, List.setIfInBounds_toArray, List.set_cons_zero, List.set_cons_succ]
                                refine wpAnyH_take (i := 18) (v := ?_) rfl (by kernel_rfl) (by kernel_rfl) (by kernel_rfl) (fun _ _ _ h => h) (Or.inl ⟨by rfl, ?_⟩) (by assumption) ?_
                                rotate_left
                                focus
                                  intro w hSw
                                  (try dsimp only at hSw)
                                  (try go_split_ands)
                                  go_simp
                                  try with_reducible rfl
                                try simp only [Act.put, List.getElem_toArray, List.getElem_cons_succ, List.getElem_cons_zero, List.setIfInBounds_toArray, List.set_cons_zero, List.set_cons_succ]
                                refine wpAnyH_take (i := 19) (v := ?_) rfl (by kernel_rfl) (by kernel_rfl) (by kernel_rfl) (fun _ _ _ h => h) (Or.inl ⟨by rfl, ?_⟩) (by assumption) ?_
                                rotate_left
                                focus
                                  intro w hSw
                                  (try dsimp only at hSw)
                                  (try go_split_ands)
                                  go_simp
                                  try with_reducible rfl
                                try simp only [Act.put, List.getElem_toArray, List.getElem_cons_succ, List.getElem_cons_zero, List.setIfInBounds_toArray, List.set_cons_zero, List.set_cons_succ]
                                refine wpAnyH_take (i := 20) (v := ?_) rfl (by kernel_rfl) (by kernel_rfl) (by kernel_rfl) (fun _ _ _ h => h) (Or.inl ⟨by rfl, ?_⟩) (by assumption) ?_
                                rotate_left
                                focus
                                  intro w hSw
                                  (try dsimp only at hSw)
                                  (try go_split_ands)
                                  go_simp
                                  try with_reducible rfl
                                try simp only [Act.put, List.getElem_toArray, List.getElem_cons_succ, List.getElem_cons_zero, List.setIfInBounds_toArray, List.set_cons_zero, List.set_cons_succ]
                                refine wpAnyH_take (i := 21) (v := ?_) rfl (by kernel_rfl) (by kernel_rfl) (by kernel_rfl) (fun _ _ _ h => h) (Or.inl ⟨by rfl, ?_⟩) (by assumption) ?_
                                rotate_left
                                focus
                                  intro w hSw
                                  (try dsimp only at hSw)
                                  (try go_split_ands)
                                  go_simp
                                  try with_reducible rfl
                                try simp only [Act.put, List.getElem_toArray, List.getElem_cons_succ, List.getElem_cons_zero, List.setIfInBounds_toArray, List.set_cons_zero, List.set_cons_succ]
                                refine wpAnyH_take (i := 22) (v := ?_) rfl (by kernel_rfl) (by kernel_rfl) (by kernel_rfl) (fun _ _ _ h => h) (Or.inl ⟨by rfl, ?_⟩) (by assumption) ?_
                                rotate_left
                                focus
                                  intro w hSw
                                  (try dsimp only at hSw)
                                  (try go_split_ands)
                                  go_simp
                                  try with_reducible rfl
                                try simp only [Act.put, List.getElem_toArray, List.getElem_cons_succ, List.getElem_cons_zero, List.setIfInBounds_toArray, List.set_cons_zero, List.set_cons_succ]
                                refine wpAnyH_take (i := 23) (v := ?_) rfl (by kernel_rfl) (by kernel_rfl) (by kernel_rfl) (fun _ _ _ h => h) (Or.inl ⟨by rfl, ?_⟩) (by assumption) ?_
                                rotate_left
                                focus
                                  intro w hSw
                                  (try dsimp only at hSw)
                                  (try go_split_ands)
                                  go_simp
                                  try with_reducible rfl
                                try simp only [Act.put, List.getElem_toArray, List.getElem_cons_succ, List.getElem_cons_zero, List.setIfInBounds_toArray, List.set_cons_zero, List.set_cons_succ]
                                refine wpAnyH_take (i := 24) (v := ?_) rfl (by kernel_rfl) (by kernel_rfl) (by kernel_rfl) (fun _ _ _ h => h) (Or.inl ⟨by rfl, ?_⟩) (by assumption) ?_
                                rotate_left
                                focus
                                  intro w hSw
                                  (try dsimp only at hSw)
                                  (try go_split_ands)
                                  go_simp
                                  try with_reducible rfl
                                try simp only [Act.put, List.getElem_toArray, List.getElem_cons_succ, List.getElem_cons_zero, List.setIfInBounds_toArray, List.set_cons_zero, List.set_cons_succ]
                                refine wpAnyH_take (i := 25) (v := ?_) rfl (by kernel_rfl) (by kernel_rfl) (by kernel_rfl) (fun _ _ _ h => h) (Or.inl ⟨by rfl, ?_⟩) (by assumption) ?_
                                rotate_left
                                focus
                                  intro w hSw
                                  (try dsimp only at hSw)
                                  (try go_split_ands)
                                  go_simp
                                  try with_reducible rfl
                                try simp only [Act.put, List.getElem_toArray, List.getElem_cons_succ, List.getElem_cons_zero, List.setIfInBounds_toArray, List.set_cons_zero, List.set_cons_succ]
                                refine wpAnyH_take (i := 26) (v := ?_) rfl (by kernel_rfl) (by kernel_rfl) (by kernel_rfl) (fun _ _ _ h => h) (Or.inl ⟨by rfl, ?_⟩) (by assumption) ?_
                                rotate_left
                                focus
                                  intro w hSw
                                  (try dsimp only at hSw)
                                  (try go_split_ands)
                                  go_simp
                                  try with_reducible rfl
                                try simp only [Act.put, List.getElem_toArray, List.getElem_cons_succ, List.getElem_cons_zero, List.setIfInBounds_toArray, List.set_cons_zero, List.set_cons_succ]
                                refine wpAnyH_take (i := 27) (v := ?_) rfl (by kernel_rfl) (by kernel_rfl) (by kernel_rfl) (fun _ _ _ h => h) (Or.inl ⟨by rfl, ?_⟩) (by assumption) ?_
                                rotate_left
                                focus
                                  intro w hSw
                                  (try dsimp only at hSw)
                                  (try go_split_ands)
                                  go_simp
                                  try with_reducible rfl
                                try simp only [Act.put, List.getElem_toArray, List.getElem_cons_succ, List.getElem_cons_zero, List.setIfInBounds_toArray, List.set_cons_zero, List.set_cons_succ]
                                refine wpAnyH_take (i := 28) (v := ?_) rfl (by kernel_rfl) (by kernel_rfl) (by kernel_rfl) (fun _ _ _ h => h) (Or.inl ⟨by rfl, ?_⟩) (by assumption) ?_
                                rotate_left
                                focus
                                  intro w hSw
                                  (try dsimp only at hSw)
                                  (try go_split_ands)
                                  go_simp
                                  try with_reducible rfl
                                try simp only [Act.put, List.getElem_toArray, List.getElem_cons_succ, List.getElem_cons_zero, List.setIfInBounds_toArray, List.set_cons_zero, List.set_cons_succ]
                                refine wpAnyH_take (i := 29) (v := ?_) rfl (by kernel_rfl) (by kernel_rfl) (by kernel_rfl) (fun _ _ _ h => h) (Or.inl ⟨by rfl, ?_⟩) (by assumption) ?_
                                rotate_left
                                focus
                                  intro w hSw
                                  (try dsimp only at hSw)
                                  (try go_split_ands)
                                  go_simp
                                  try with_reducible rfl
                                try simp only [Act.put, List.getElem_toArray, List.getElem_cons_succ, List.getElem_cons_zero, List.setIfInBounds_toArray, List.set_cons_zero, List.set_cons_succ]
                                refine wpAnyH_take (i := 30) (v := ?_) rfl (by kernel_rfl) (by kernel_rfl) (by kernel_rfl) (fun _ _ _ h => h) (Or.inl ⟨by rfl, ?_⟩) (by assumption) ?_
                                rotate_left
                                focus
                                  intro w hSw
                                  (try dsimp only at hSw)
                                  (try go_split_ands)
                                  go_simp
                                  try with_reducible rfl
                                try simp only [Act.put, List.getElem_toArray, List.getElem_cons_succ, List.getElem_cons_zero, List.setIfInBounds_toArray, List.set_cons_zero, List.set_cons_succ]
                                refine wpAnyH_take (i := 31) (v := ?_) rfl (by kernel_rfl) (by kernel_rfl) (by kernel_rfl) (fun _ _ _ h => h) (Or.inl ⟨by rfl, ?_⟩) (by assumption) ?_
                                rotate_left
                                focus
                                  intro w hSw
                                  (try dsimp only at hSw)
                                  (try go_split_ands)
                                  go_simp
                                  try with_reducible rfl
                                try simp only [Act.put, List.getElem_toArray, List.getElem_cons_succ, List.getElem_cons_zero, List.setIfInBounds_toArray, List.set_cons_zero, List.set_cons_succ]
                                refine wpAnyH_take (i := 32) (v := ?_) rfl (by kernel_rfl) (by kernel_rfl) (by kernel_rfl) (fun _ _ _ h => h) (Or.inl ⟨by rfl, ?_⟩) (by assumption) ?_
                                rotate_left
                                focus
                                  intro w hSw
                                  (try dsimp only at hSw)
                                  (try go_split_ands)
                                  go_simp
                                  try with_reducible rfl
                                try simp only [Act.put, List.getElem_toArray, List.getElem_cons_succ, List.getElem_cons_zero, List.setIfInBounds_toArray, List.set_cons_zero, List.set_cons_succ]
                                refine wpAnyH_take (i := 33) (v := ?_) rfl (by kernel_rfl) (by kernel_rfl) (by kernel_rfl) (fun _ _ _ h => h) (Or.inl ⟨by rfl, ?_⟩) (by assumption) ?_
                                rotate_left
                                focus
                                  intro w hSw
                                  (try dsimp only at hSw)
                                  (try go_split_ands)
                                  go_simp
                                  try with_reducible rfl
                                try simp only [Act.put, List.getElem_toArray, List.getElem_cons_succ, List.getElem_cons_zero, List.setIfInBounds_toArray, List.set_cons_zero, List.set_cons_succ]
                                refine wpAnyH_take (i := 34) (v := ?_) rfl (by kernel_rfl) (by kernel_rfl) (by kernel_rfl) (fun _ _ _ h => h) (Or.inl ⟨by rfl, ?_⟩) (by assumption) ?_
                                rotate_left
                                focus
                                  intro w hSw
                                  (try dsimp only at hSw)
                                  (try go_split_ands)
                                  go_simp
                                  try with_reducible rfl
                                try simp only [Act.put, List.getElem_toArray, List.getElem_cons_succ, List.getElem_cons_zero, List.setIfInBounds_toArray, List.set_cons_zero, List.set_cons_succ]
                                refine wpAnyH_take (i := 35) (v := ?_) rfl (by kernel_rfl) (by kernel_rfl) (by kernel_rfl) (fun _ _ _ h => h) (Or.inl ⟨by rfl, ?_⟩) (by assumption) ?_
                                rotate_left
                                focus
                                  intro w hSw
                                  (try dsimp only at hSw)
                                  (try go_split_ands)
                                  go_simp
                                  try with_reducible rfl
                                try simp only [Act.put, List.getElem_toArray, List.getElem_cons_succ, List.getElem_cons_zero, List.setIfInBounds_toArray, List.set_cons_zero, List.set_cons_succ]
                                refine wpAnyH_take (i := 36) (v := ?_) rfl (by kernel_rfl) (by kernel_rfl) (by kernel_rfl) (fun _ _ _ h => h) (Or.inl ⟨by rfl, ?_⟩) (by assumption) ?_
                                rotate_left
                                focus
                                  intro w hSw
                                  (try dsimp only at hSw)
                                  (try go_split_ands)
                                  go_simp
                                  try with_reducible rfl
                                try simp only [Act.put, List.getElem_toArray, List.getElem_cons_succ, List.getElem_cons_zero, List.setIfInBounds_toArray, List.set_cons_zero, List.set_cons_succ]
                                refine wpAnyH_take (i := 37) (v := ?_) rfl (by kernel_rfl) (by kernel_rfl) (by kernel_rfl) (fun _ _ _ h => h) (Or.inl ⟨by rfl, ?_⟩) (by assumption) ?_
                                rotate_left
                                focus
                                  intro w hSw
                                  (try dsimp only at hSw)
                                  (try go_split_ands)
                                  go_simp
                                  try with_reducible rfl
                                try simp only [Act.put, List.getElem_toArray, List.getElem_cons_succ, List.getElem_cons_zero, List.setIfInBounds_toArray, List.set_cons_zero, List.set_cons_succ]
                                refine wpAnyH_take (i := 38) (v := ?_) rfl (by kernel_rfl) (by kernel_rfl) (by kernel_rfl) (fun _ _ _ h => h) (Or.inl ⟨by rfl, ?_⟩) (by assumption) ?_
                                rotate_left
                                focus
                                  intro w hSw
                                  (try dsimp only at hSw)
                                  (try go_split_ands)
                                  go_simp
                                  try with_reducible rfl
                                try simp only [Act.put, List.getElem_toArray, List.getElem_cons_succ, List.getElem_cons_zero, List.setIfInBounds_toArray, List.set_cons_zero, List.set_cons_succ]
                                refine wpAnyH_take (i := 39) (v := ?_) rfl (by kernel_rfl) (by kernel_rfl) (by kernel_rfl) (fun _ _ _ h => h) (Or.inl ⟨by rfl, ?_⟩) (by assumption) ?_
                                rotate_left
                                focus
                                  intro w hSw
                                  (try dsimp only at hSw)
                                  (try go_split_ands)
                                  go_simp
                                  try with_reducible rfl
                                try simp only [Act.put, List.getElem_toArray, List.getElem_cons_succ, List.getElem_cons_zero, List.setIfInBounds_toArray, List.set_cons_zero, List.set_cons_succ]
                                refine wpAnyH_take (i := 40) (v := ?_) rfl (by kernel_rfl) (by kernel_rfl) (by kernel_rfl) (fun _ _ _ h => h) (Or.inl ⟨by rfl, ?_⟩) (by assumption) ?_
                                rotate_left
                                focus
                                  intro w hSw
                                  (try dsimp only at hSw)
                                  (try go_split_ands)
                                  go_simp
                                  try with_reducible rfl
                                try simp only [Act.put, List.getElem_toArray, List.getElem_cons_succ, List.getElem_cons_zero, List.setIfInBounds_toArray, List.set_cons_zero, List.set_cons_succ]
                                refine wpAnyH_take (i := 41) (v := ?_) rfl (by kernel_rfl) (by kernel_rfl) (by kernel_rfl) (fun _ _ _ h => h) (Or.inl ⟨by rfl, ?_⟩) (by assumption) ?_
                                rotate_left
                                focus
                                  intro w hSw
                                  (try dsimp only at hSw)
                                  (try go_split_ands)
                                  go_simp
                                  try with_reducible rfl
                                try simp only [Act.put, List.getElem_toArray, List.getElem_cons_succ, List.getElem_cons_zero, List.setIfInBounds_toArray, List.set_cons_zero, List.set_cons_succ]
                                refine wpAnyH_take (i := 42) (v := ?_) rfl (by kernel_rfl) (by kernel_rfl) (by kernel_rfl) (fun _ _ _ h => h) (Or.inl ⟨by rfl, ?_⟩) (by assumption) ?_
                                rotate_left
                                focus
                                  intro w hSw
                                  (try dsimp only at hSw)
                                  (try go_split_ands)
                                  go_simp
                                  try with_reducible rfl
                                try simp only [Act.put, List.getElem_toArray, List.getElem_cons_succ, List.getElem_cons_zero, List.setIfInBounds_toArray, List.set_cons_zero, List.set_cons_succ]
                                refine wpAnyH_take (i := 43) (v := ?_) rfl (by kernel_rfl) (by kernel_rfl) (by kernel_rfl) (fun _ _ _ h => h) (Or.inl ⟨by rfl, ?_⟩) (by assumption) ?_
                                rotate_left
                                focus
                                  intro w hSw
                                  (try dsimp only at hSw)
                                  (try go_split_ands)
                                  go_simp
                                  try with_reducible rfl
                                try simp only [Act.put, List.getElem_toArray, List.getElem_cons_succ, List.getElem_cons_zero, List.setIfInBounds_toArray, List.set_cons_zero, List.set_cons_succ]
                                refine wpAnyH_take (i := 44) (v := ?_) rfl (by kernel_rfl) (by kernel_rfl) (by kernel_rfl) (fun _ _ _ h => h) (Or.inl ⟨by rfl, ?_⟩) (by assumption) ?_
                                rotate_left
                                focus
                                  intro w hSw
                                  (try dsimp only at hSw)
                                  (try go_split_ands)
                                  go_simp
                                  try with_reducible rfl
                                try simp only [Act.put, List.getElem_toArray, List.getElem_cons_succ, List.getElem_cons_zero, List.setIfInBounds_toArray, List.set_cons_zero, List.set_cons_succ]
                                refine wpAnyH_ready (rs := [45]) (by kernel_rfl) (by simp) (AllReadyH.cons rfl (fun K hK => ?_) AllReadyH.nil)
                                go_simp
                                go_at_call 30
                                ((with_reducible refine (HB1.out _).mono ?_); rintro e wb ⟨rfl, hb⟩)
                                refine hK.out _ _ (keep3F hS hb) (fun hS => ?_)
                                clear hK K hb
                                try simp only [Act.put, List.getElem_toArray, List.getElem_cons_succ, List.getElem_cons_zero, List.setIfInBounds_toArray, List.set_cons_zero, List.set_cons_succ]
                                cases u1 : befB x y
                                · (try rw [u1])
                                  refine wpAnyH_take (i := 46) (v := ?_) rfl (by kernel_rfl) (by kernel_rfl) (by kernel_rfl) (fun _ _ _ h => h) (Or.inl ⟨by rfl, ?_⟩) (by assumption) ?_
                                  rotate_left
                                  focus
                                    intro w hSw
                                    (try dsimp only at hSw)
                                    (try go_split_ands)
                                    go_simp
                                    try with_reducible rfl
                                  try simp only [Act.put, List.getElem_toArray, List.getElem_cons_succ, List.getElem_cons_zero, List.setIfInBounds_toArray, List.set_cons_zero, List.set_cons_succ]
                                  refine wpAnyH_take (i := 47) (v := ?_) rfl (by kernel_rfl) (by kernel_rfl) (by kernel_rfl) (fun _ _ _ h => h) (Or.inl ⟨by rfl, ?_⟩) (by assumption) ?_
                                  rotate_left
                                  focus
                                    intro w hSw
                                    (try dsimp only at hSw)
                                    (try go_split_ands)
                                    go_simp
                                    try with_reducible rfl
                                  try simp only [Act.put, List.getElem_toArray, List.getElem_cons_succ, List.getElem_cons_zero, List.setIfInBounds_toArray, List.set_cons_zero, List.set_cons_succ]
                                  refine wpAnyH_take (i := 48) (v := ?_) rfl (by kernel_rfl) (by kernel_rfl) (by kernel_rfl) (fun _ _ _ h => h) (Or.inl ⟨by rfl, ?_⟩) (by assumption) ?_
                                  rotate_left
                                  focus
                                    intro w hSw
                                    (try dsimp only at hSw)
                                    (try go_split_ands)
                                    go_simp
                                    try with_reducible rfl
                                  try simp only [Act.put, List.getElem_toArray, List.getElem_cons_succ, List.getElem_cons_zero, List.setIfInBounds_toArray, List.set_cons_zero, List.set_cons_succ]
                                  refine wpAnyH_take (i := 49) (v := ?_) rfl (by kernel_rfl) (by kernel_rfl) (by kernel_rfl) (fun _ _ _ h => h) (Or.inl ⟨by rfl, ?_⟩) (by assumption) ?_
                                  rotate_left
                                  focus
                                    intro w hSw
                                    (try dsimp only at hSw)
                                    (try go_split_ands)
                                    go_simp
                                    try with_reducible rfl
                                  try simp only [Act.put, List.getElem_toArray, List.getElem_cons_succ, List.getElem_cons_zero, List.setIfInBounds_toArray, List.set_cons_zero, List.set_cons_succ]
                                  by_cases hjq : j < q
                                  · have u3 : decide (j < q) = true := decide_eq_true hjq
                                    simp only [u3]
                                    refine wpAnyH_take (i := 50) (v := ?_) rfl (by kernel_rfl) (by kernel_rfl) (by kernel_rfl) (fun _ _ _ h => h) (Or.inl ⟨by rfl, ?_⟩) (by assumption) ?_
                                    rotate_left
                                    focus
                                      intro w hSw
                                      (try dsimp only at hSw)
                                      (try go_split_ands)
                                      go_simp
                                      try with_reducible rfl
                                    try simp only [Act.put, List.getElem_toArray, List.getElem_cons_succ, List.getElem_cons_zero, List.setIfInBounds_toArray, List.set_cons_zero, List.set_cons_succ]
                                    refine wpAnyH_take (i := 51) (v := ?_) rfl (by kernel_rfl) (by kernel_rfl) (by kernel_rfl) (fun _ _ _ h => h) (Or.inl ⟨by rfl, ?_⟩) (by assumption) ?_
                                    rotate_left
                                    focus
                                      intro w hSw
                                      (try dsimp only at hSw)
                                      (try go_split_ands)
                                      go_simp
                                      try with_reducible rfl
                                    try simp only [Act.put, List.getElem_toArray, List.getElem_cons_succ, List.getElem_cons_zero, List.setIfInBounds_toArray, List.set_cons_zero, List.set_cons_succ]
                                    refine wpAnyH_take (i := 52) (v := ?_) rfl (by kernel_rfl) (by kernel_rfl) (by kernel_rfl) (fun _ _ _ h => h) (Or.inl ⟨by rfl, ?_⟩) (by assumption) ?_
                                    rotate_left
                                    focus
                                      intro w hSw
                                      (try dsimp only at hSw)
                                      (try go_split_ands)
                                      go_simp
                                      try with_reducible rfl
                                    try simp only [Act.put, List.getElem_toArray, List.getElem_cons_succ, List.getElem_cons_zero, List.setIfInBounds_toArray, List.set_cons_zero, List.set_cons_succ]
                                    refine wpAnyH_take (i := 53) (v := ?_) rfl (by kernel_rfl) (by kernel_rfl) (by kernel_rfl) (fun _ _ _ h => h) (Or.inl ⟨by rfl, ?_⟩) (by assumption) ?_
                                    rotate_left
                                    focus
                                      intro w hSw
                                      (try dsimp only at hSw)
                                      (try go_split_ands)
                                      go_simp
                                      try with_reducible rfl
                                    try simp only [Act.put, List.getElem_toArray, List.getElem_cons_succ, List.getElem_cons_zero, List.setIfInBounds_toArray, List.set_cons_zero, List.set_cons_succ]
                                    refine wpAnyH_take (i := 54) (v := ?_) rfl (by kernel_rfl) (by kernel_rfl) (by kernel_rfl) (fun _ _ _ h => h) (Or.inl ⟨by rfl, ?_⟩) (by assumption) ?_
                                    rotate_left
                                    focus
                                      intro w hSw
                                      (try dsimp only at hSw)
                                      (try go_split_ands)
                                      go_simp
                                      try with_reducible rfl
                                    try simp only [Act.put, List.getElem_toArray, List.getElem_cons_succ, List.getElem_cons_zero, List.setIfInBounds_toArray, List.set_cons_zero, List.set_cons_succ]
                                    refine wpAnyH_take (i := 55) (v := ?_) rfl (by kernel_rfl) (by kernel_rfl) (by kernel_rfl) (fun _ _ _ h => h) (Or.inl ⟨by rfl, ?_⟩) (by assumption) ?_
                                    rotate_left
                                    focus
                                      intro w hSw
                                      (try dsimp only at hSw)
                                      (try go_split_ands)
                                      go_simp
                                      try with_reducible rfl
                                    try simp only [Act.put, List.getElem_toArray, List.getElem_cons_succ, List.getElem_cons_zero, List.setIfInBounds_toArray, List.set_cons_zero, List.set_cons_succ]
                                    refine wpAnyH_take (i := 56) (v := ?_) rfl (by kernel_rfl) (by kernel_rfl) (by kernel_rfl) (fun _ _ _ h => h) (Or.inl ⟨by rfl, ?_⟩) (by assumption) ?_
                                    rotate_left
                                    focus
                                      intro w hSw
                                      (try dsimp only at hSw)
                                      (try go_split_ands)
                                      go_simp
                                      try with_reducible rfl
                                    try simp only [Act.put, List.getElem_toArray, List.getElem_cons_succ, List.getElem_cons_zero, List.setIfInBounds_toArray, List.set_cons_zero, List.set_cons_succ]
                                    refine wpAnyH_take (i := 57) (v := ?_) rfl (by kernel_rfl) (by kernel_rfl) (by kernel_rfl) (fun _ _ _ h => h) (Or.inl ⟨by rfl, ?_⟩) (by assumption) ?_
                                    rotate_left
                                    focus
                                      intro w hSw
                                      (try dsimp only at hSw)
                                      (try go_split_ands)
                                      go_simp
                                      try with_reducible rfl
                                    try simp only [Act.put, List.getElem_toArray, List.getElem_cons_succ, List.getElem_cons_zero, List.setIfInBounds_toArray, List.set_cons_zero, List.set_cons_succ]
                                    refine wpAnyH_take (i := 58) (v := ?_) rfl (by kernel_rfl) (by kernel_rfl) (by kernel_rfl) (fun _ _ _ h => h) (Or.inl ⟨by rfl, ?_⟩) (by assumption) ?_
                                    rotate_left
                                    focus
                                      intro w hSw
                                      (try dsimp only at hSw)
                                      (try go_split_ands)
                                      go_simp
                                      try with_reducible rfl
                                    try simp only [Act.put, List.getElem_toArray, List.getElem_cons_succ, List.getElem_cons_zero, List.setIfInBounds_toArray, List.set_cons_zero, List.set_cons_succ]
                                    refine wpAnyH_ready (rs := [59]) (by kernel_rfl) (by simp) (AllReadyH.cons rfl (fun K hK => ?_) AllReadyH.nil)
                                    go_simp
                                    go_at_call 30
                                    ((with_reducible refine (HB2.out _).mono ?_); rintro e wc ⟨rfl, hb⟩)
                                    refine hK.out _ _ (keep3F hS hb) (fun hS => ?_)
                                    clear hK K hb
                                    try simp only [Act.put, List.getElem_toArray, List.getElem_cons_succ, List.getElem_cons_zero, List.setIfInBounds_toArray, List.set_cons_zero, List.set_cons_succ]
                                    cases u2 : befB y x
                                    · (try rw [u2])
                                      have HQ : Hid (badB l kk dy kn j q = true) := Lib.hid (by rw [HBO.out, u1, u2, u3]; rfl)
                                      clear u1 u2
                                      refine wpAnyH_take (i := 60) (v := ?_) rfl (by kernel_rfl) (by kernel_rfl) (by kernel_rfl) (fun _ _ _ h => h) (Or.inl ⟨by rfl, ?_⟩) (by assumption) ?_
                                      rotate_left
                                      focus
                                        intro w hSw
                                        (try dsimp only at hSw)
                                        (try go_split_ands)
                                        go_simp
                                        try with_reducible rfl
                                      try simp only [Act.put, List.getElem_toArray, List.getElem_cons_succ, List.getElem_cons_zero, List.setIfInBounds_toArray, List.set_cons_zero, List.set_cons_succ]
                                      refine wpAnyH_take (i := 61) (v := ?_) rfl (by kernel_rfl) (by kernel_rfl) (by kernel_rfl) (fun _ _ _ h => h) (Or.inl ⟨by rfl, ?_⟩) (by assumption) ?_
                                      rotate_left
                                      focus
                                        intro w hSw
                                        (try dsimp only at hSw)
                                        (try go_split_ands)
                                        go_simp
                                        try with_reducible rfl
                                      try simp only [Act.put, List.getElem_toArray, List.getElem_cons_succ, List.getElem_cons_zero, List.setIfInBounds_toArray, List.set_cons_zero, List.set_cons_succ]
                                      refine wpAnyH_take (i := 62) (v := ?_) rfl (by kernel_rfl) (by kernel_rfl) (by kernel_rfl) (fun _ _ _ h => h) (Or.inl ⟨by rfl, ?_⟩) (by assumption) ?_
                                      rotate_left
                                      focus
                                        intro w hSw
                                        (try dsimp only at hSw)
                                        (try go_split_ands)
                                        go_simp
                                        try with_reducible rfl
                                      try simp only [Act.put, List.getElem_toArray, List.getElem_cons_succ, List.getElem_cons_zero, List.setIfInBounds_toArray, List.set_cons_zero, List.set_cons_succ]
                                      refine wpAnyH_take (i := 63) (v := ?_) rfl (by kernel_rfl) (by kernel_rfl) (by kernel_rfl) (fun _ _ _ h => h) (Or.inl ⟨by rfl, ?_⟩) (by assumption) ?_
                                      rotate_left
                                      focus
                                        intro w hSw
                                        (try dsimp only at hSw)
                                        (try go_split_ands)
                                        go_simp
                                        try with_reducible rfl
                                      try simp only [Act.put, List.getElem_toArray, List.getElem_cons_succ, List.getElem_cons_zero, List.setIfInBounds_toArray, List.set_cons_zero, List.set_cons_succ]
                                      refine wpAnyH_done (by kernel_rfl) ?_ _
                                      go_wp2_with fail
                                      have hF : Below wr.heap.size wr wc := hS.2.2.2
                                      go_roundw
                                      case rel => exact ⟨q + 1, false, by go_num, rfl, by omega, Lib.hid (by rw [lastTo_succ, HQ.out]; simp), hBi.on hF⟩
                                      case measure => simp [intOf]; omega
                                    · (try rw [u2])
                                      have HQ : Hid (badB l kk dy kn j q = false) := Lib.hid (by rw [HBO.out, u1, u2, u3]; rfl)
                                      clear u1 u2
                                      refine wpAnyH_take (i := 60) (v := ?_) rfl (by kernel_rfl) (by kernel_rfl) (by kernel_rfl) (fun _ _ _ h => h) (Or.inl ⟨by rfl, ?_⟩) (by assumption) ?_
                                      rotate_left
                                      focus
                                        intro w hSw
                                        (try dsimp only at hSw)
                                        (try go_split_ands)
                                        go_simp
                                        try with_reducible rfl
                                      try simp only [Act.put, List.getElem_toArray, List.getElem_cons_succ, List.getElem_cons_zero, List.setIfInBounds_toArray, List.set_cons_zero, List.set_cons_succ]
                                      refine wpAnyH_take (i := 61) (v := ?_) rfl (by kernel_rfl) (by kernel_rfl) (by kernel_rfl) (fun _ _ _ h => h) (Or.inl ⟨by rfl, ?_⟩) (by assumption) ?_
                                      rotate_left
                                      focus
                                        intro w hSw
                                        (try dsimp only at hSw)
                                        (try go_split_ands)
                                        go_simp
                                        try with_reducible rfl
                                      try simp only [Act.put, List.getElem_toArray, List.getElem_cons_succ, List.getElem_cons_zero, List.setIfInBounds_toArray, List.set_cons_zero, List.set_cons_succ]
                                      refine wpAnyH_take (i := 62) (v := ?_) rfl (by kernel_rfl) (by kernel_rfl) (by kernel_rfl) (fun _ _ _ h => h) (Or.inl ⟨by rfl, ?_⟩) (by assumption) ?_
                                      rotate_left
                                      focus
                                        intro w hSw
                                        (try dsimp only at hSw)
                                        (try go_split_ands)
                                        go_simp
                                        try with_reducible rfl
                                      try simp only [Act.put, List.getElem_toArray, List.getElem_cons_succ, List.getElem_cons_zero, List.setIfInBounds_toArray, List.set_cons_zero, List.set_cons_succ]
                                      refine wpAnyH_take (i := 63) (v := ?_) rfl (by kernel_rfl) (by kernel_rfl) (by kernel_rfl) (fun _ _ _ h => h) (Or.inl ⟨by rfl, ?_⟩) (by assumption) ?_
                                      rotate_left
                                      focus
                                        intro w hSw
                                        (try dsimp only at hSw)
                                        (try go_split_ands)
                                        go_simp
                                        try with_reducible rfl
                                      try simp only [Act.put, List.getElem_toArray, List.getElem_cons_succ, List.getElem_cons_zero, List.setIfInBounds_toArray, List.set_cons_zero, List.set_cons_succ]
                                      refine wpAnyH_done (by kernel_rfl) ?_ _
                                      go_wp2_with fail
                                      have hF : Below wr.heap.size wr wc := hS.2.2.2
                                      go_roundw
                                      case rel => exact ⟨q + 1, lb, by go_num, rfl, by omega, Lib.hid (by rw [lastTo_succ, HQ.out, Bool.not_false, Bool.and_true]; exact HL.out), hBi.on hF⟩
                                      case measure => simp [intOf]; omega
                                  · have u3 : decide (j < q) = false := decide_eq_false hjq
                                    simp only [u3]
                                    have HQ : Hid (badB l kk dy kn j q = false) := Lib.hid (by rw [HBO.out, u1, u3]; rfl)
                                    clear u1
                                    refine wpAnyH_take (i := 50) (v := ?_) rfl (by kernel_rfl) (by kernel_rfl) (by kernel_rfl) (fun _ _ _ h => h) (Or.inl ⟨by rfl, ?_⟩) (by assumption) ?_
                                    rotate_left
                                    focus
                                      intro w hSw
                                      (try dsimp only at hSw)
                                      (try go_split_ands)
                                      go_simp
                                      try with_reducible rfl
                                    try simp only [Act.put, List.getElem_toArray, List.getElem_cons_succ, List.getElem_cons_zero, List.setIfInBounds_toArray, List.set_cons_zero, List.set_cons_succ]
                                    refine wpAnyH_take (i := 51) (v := undef) rfl (by kernel_rfl) (by kernel_rfl) (by kernel_rfl) (fun _ _ _ h => h) (Or.inr ⟨by rfl, rfl⟩) (by assumption) ?_
                                    try simp only [Act.put, List.getElem_toArray, List.getElem_cons_succ, List.getElem_cons_zero, List.setIfInBounds_toArray, List.set_cons_zero, List.set_cons_succ]
                                    refine wpAnyH_take (i := 52) (v := undef) rfl (by kernel_rfl) (by kernel_rfl) (by kernel_rfl) (fun _ _ _ h => h) (Or.inr ⟨by rfl, rfl⟩) (by assumption) ?_
                                    try simp only [Act.put, List.getElem_toArray, List.getElem_cons_succ, List.getElem_cons_zero, List.setIfInBounds_toArray, List.set_cons_zero, List.set_cons_succ]
                                    refine wpAnyH_take (i := 53) (v := undef) rfl (by kernel_rfl) (by kernel_rfl) (by kernel_rfl) (fun _ _ _ h => h) (Or.inr ⟨by rfl, rfl⟩) (by assumption) ?_
                                    try simp only [Act.put, List.getElem_toArray, List.getElem_cons_succ, List.getElem_cons_zero, List.setIfInBounds_toArray, List.set_cons_zero, List.set_cons_succ]
                                    refine wpAnyH_take (i := 54) (v := undef) rfl (by kernel_rfl) (by kernel_rfl) (by kernel_rfl) (fun _ _ _ h => h) (Or.inr ⟨by rfl, rfl⟩) (by assumption) ?_
                                    try simp only [Act.put, List.getElem_toArray, List.getElem_cons_succ, List.getElem_cons_zero, List.setIfInBounds_toArray, List.set_cons_zero, List.set_cons_succ]
                                    refine wpAnyH_take (i := 55) (v := undef) rfl (by kernel_rfl) (by kernel_rfl) (by kernel_rfl) (fun _ _ _ h => h) (Or.inr ⟨by rfl, rfl⟩) (by assumption) ?_
                                    try simp only [Act.put, List.getElem_toArray, List.getElem_cons_succ, List.getElem_cons_zero, List.setIfInBounds_toArray, List.set_cons_zero, List.set_cons_succ]
                                    refine wpAnyH_take (i := 56) (v := undef) rfl (by kernel_rfl) (by kernel_rfl) (by kernel_rfl) (fun _ _ _ h => h) (Or.inr ⟨by rfl, rfl⟩) (by assumption) ?_
                                    try simp only [Act.put, List.getElem_toArray, List.getElem_cons_succ, List.getElem_cons_zero, List.setIfInBounds_toArray, List.set_cons_zero, List.set_cons_succ]
                                    refine wpAnyH_take (i := 57) (v := undef) rfl (by kernel_rfl) (by kernel_rfl) (by kernel_rfl) (fun _ _ _ h => h) (Or.inr ⟨by rfl, rfl⟩) (by assumption) ?_
                                    try simp only [Act.put, List.getElem_toArray, List.getElem_cons_succ, List.getElem_cons_zero, List.setIfInBounds_toArray, List.set_cons_zero, List.set_cons_succ]
                                    refine wpAnyH_take (i := 58) (v := undef) rfl (by kernel_rfl) (by kernel_rfl) (by kernel_rfl) (fun _ _ _ h => h) (Or.inr ⟨by rfl, rfl⟩) (by assumption) ?_
                                    try simp only [Act.put, List.getElem_toArray, List.getElem_cons_succ, List.getElem_cons_zero, List.setIfInBounds_toArray, List.set_cons_zero, List.set_cons_succ]
                                    refine wpAnyH_take (i := 59) (v := undef) rfl (by kernel_rfl) (by kernel_rfl) (by kernel_rfl) (fun _ _ _ h => h) (Or.inr ⟨by rfl, rfl⟩) (by assumption) ?_
                                    try simp only [Act.put, List.getElem_toArray, List.getElem_cons_succ, List.getElem_cons_zero, List.setIfInBounds_toArray, List.set_cons_zero, List.set_cons_succ]
                                    refine wpAnyH_take (i := 60) (v := undef) rfl (by kernel_rfl) (by kernel_rfl) (by kernel_rfl) (fun _ _ _ h => h) (Or.inr ⟨by rfl, rfl⟩) (by assumption) ?_
                                    try simp only [Act.put, List.getElem_toArray, List.getElem_cons_succ, List.getElem_cons_zero, List.setIfInBounds_toArray, List.set_cons_zero, List.set_cons_succ]
                                    refine wpAnyH_take (i := 61) (v := ?_) rfl (by kernel_rfl) (by kernel_rfl) (by kernel_rfl) (fun _ _ _ h => h) (Or.inl ⟨by rfl, ?_⟩) (by assumption) ?_
                                    rotate_left
                                    focus
                                      intro w hSw
                                      (try dsimp only at hSw)
                                      (try go_split_ands)
                                      go_simp
                                      try with_reducible rfl
                                    try simp only [Act.put, List.getElem_toArray, List.getElem_cons_succ, List.getElem_cons_zero, List.setIfInBounds_toArray, List.set_cons_zero, List.set_cons_succ]
                                    refine wpAnyH_take (i := 62) (v := ?_) rfl (by kernel_rfl) (by kernel_rfl) (by kernel_rfl) (fun _ _ _ h => h) (Or.inl ⟨by rfl, ?_⟩) (by assumption) ?_
                                    rotate_left
                                    focus
                                      intro w hSw
                                      (try dsimp only at hSw)
                                      (try go_split_ands)
                                      go_simp
                                      try with_reducible rfl
                                    try simp only [Act.put, List.getElem_toArray, List.getElem_cons_succ, List.getElem_cons_zero, List.setIfInBounds_toArray, List.set_cons_zero, List.set_cons_succ]
                                    refine wpAnyH_take (i := 63) (v := ?_) rfl (by kernel_rfl) (by kernel_rfl) (by kernel_rfl) (fun _ _ _ h => h) (Or.inl ⟨by rfl, ?_⟩) (by assumption) ?_
                                    rotate_left
                                    focus
                                      intro w hSw
                                      (try dsimp only at hSw)
                                      (try go_split_ands)
                                      go_simp
                                      try with_reducible rfl
                                    try simp only [Act.put, List.getElem_toArray, List.getElem_cons_succ, List.getElem_cons_zero, List.setIfInBounds_toArray, List.set_cons_zero, List.set_cons_succ]
                                    refine wpAnyH_done (by kernel_rfl) ?_ _
                                    go_wp2_with fail
                                    have hF : Below wr.heap.size wr wb := hS.2.2.2
                                    go_roundw
                                    case rel => exact ⟨q + 1, lb, by go_num, rfl, by omega, Lib.hid (by rw [lastTo_succ, HQ.out, Bool.not_false, Bool.and_true]; exact HL.out), hBi.on hF⟩
                                    case measure => simp [intOf]; omega
                                · (try rw [u1])
                                  have HQ : Hid (badB l kk dy kn j q = true) := Lib.hid (by rw [HBO.out, u1]; rfl)
                                  clear u1
                                  refine wpAnyH_take (i := 46) (v := ?_) rfl (by kernel_rfl) (by kernel_rfl) (by kernel_rfl) (fun _ _ _ h => h) (Or.inl ⟨by rfl, ?_⟩) (by assumption) ?_
                                  rotate_left
                                  focus
                                    intro w hSw
                                    (try dsimp only at hSw)
                                    (try go_split_ands)
                                    go_simp
                                    try with_reducible rfl
                                  try simp only [Act.put, List.getElem_toArray, List.getElem_cons_succ, List.getElem_cons_zero, List.setIfInBounds_toArray, List.set_cons_zero, List.set_cons_succ]
                                  refine wpAnyH_take (i := 47) (v := undef) rfl (by kernel_rfl) (by kernel_rfl) (by kernel_rfl) (fun _ _ _ h => h) (Or.inr ⟨by rfl, rfl⟩) (by assumption) ?_
                                  try simp only [Act.put, List.getElem_toArray, List.getElem_cons_succ, List.getElem_cons_zero, List.setIfInBounds_toArray, List.set_cons_zero, List.set_cons_succ]
                                  refine wpAnyH_take (i := 48) (v := undef) rfl (by kernel_rfl) (by kernel_rfl) (by kernel_rfl) (fun _ _ _ h => h) (Or.inr ⟨by rfl, rfl⟩) (by assumption) ?_
                                  try simp only [Act.put, List.getElem_toArray, List.getElem_cons_succ, List.getElem_cons_zero, List.setIfInBounds_toArray, List.set_cons_zero, List.set_cons_succ]
                                  refine wpAnyH_take (i := 49) (v := undef) rfl (by kernel_rfl) (by kernel_rfl) (by kernel_rfl) (fun _ _ _ h => h) (Or.inr ⟨by rfl, rfl⟩) (by assumption) ?_
                                  try simp only [Act.put, List.getElem_toArray, List.getElem_cons_succ, List.getElem_cons_zero, List.setIfInBounds_toArray, List.set_cons_zero, List.set_cons_succ]
                                  refine wpAnyH_take (i := 50) (v := undef) rfl (by kernel_rfl) (by kernel_rfl) (by kernel_rfl) (fun _ _ _ h => h) (Or.inr ⟨by rfl, rfl⟩) (by assumption) ?_
                                  try simp only [Act.put, List.getElem_toArray, List.getElem_cons_succ, List.getElem_cons_zero, List.setIfInBounds_toArray, List.set_cons_zero, List.set_cons_succ]
                                  refine wpAnyH_take (i := 51) (v := undef) rfl (by kernel_rfl) (by kernel_rfl) (by kernel_rfl) (fun _ _ _ h => h) (Or.inr ⟨by rfl, rfl⟩) (by assumption) ?_
                                  try simp only [Act.put, List.getElem_toArray, List.getElem_cons_succ, List.getElem_cons_zero, List.setIfInBounds_toArray, List.set_cons_zero, List.set_cons_succ]
                                  refine wpAnyH_take (i := 52) (v := undef) rfl (by kernel_rfl) (by kernel_rfl) (by kernel_rfl) (fun _ _ _ h => h) (Or.inr ⟨by rfl, rfl⟩) (by assumption) ?_
                                  try simp only [Act.put, List.getElem_toArray, List.getElem_cons_succ, List.getElem_cons_zero, List.setIfInBounds_toArray, List.set_cons_zero, List.set_cons_succ]
                                  refine wpAnyH_take (i := 53) (v := undef) rfl (by kernel_rfl) (by kernel_rfl) (by kernel_rfl) (fun _ _ _ h => h) (Or.inr ⟨by rfl, rfl⟩) (by assumption) ?_
                                  try simp only [Act.put, List.getElem_toArray, List.getElem_cons_succ, List.getElem_cons_zero, List.setIfInBounds_toArray, List.set_cons_zero, List.set_cons_succ]
                                  refine wpAnyH_take (i := 54) (v := undef) rfl (by kernel_rfl) (by kernel_rfl) (by kernel_rfl) (fun _ _ _ h => h) (Or.inr ⟨by rfl, rfl⟩) (by assumption) ?_
                                  try simp only [Act.put, List.getElem_toArray, List.getElem_cons_succ, List.getElem_cons_zero, List.setIfInBounds_toArray, List.set_cons_zero, List.set_cons_succ]
                                  refine wpAnyH_take (i := 55) (v := undef) rfl (by kernel_rfl) (by kernel_rfl) (by kernel_rfl) (fun _ _ _ h => h) (Or.inr ⟨by rfl, rfl⟩) (by assumption) ?_
                                  try simp only [Act.put, List.getElem_toArray, List.getElem_cons_succ, List.getElem_cons_zero, List.setIfInBounds_toArray, List.set_cons_zero, List.set_cons_succ]
                                  refine wpAnyH_take (i := 56) (v := undef) rfl (by kernel_rfl) (by kernel_rfl) (by kernel_rfl) (fun _ _ _ h => h) (Or.inr ⟨by rfl, rfl⟩) (by assumption) ?_
                                  try simp only [Act.put, List.getElem_toArray, List.getElem_cons_succ, List.getElem_cons_zero, List.setIfInBounds_toArray, List.set_cons_zero, List.set_cons_succ]
                                  refine wpAnyH_take (i := 57) (v := undef) rfl (by kernel_rfl) (by kernel_rfl) (by kernel_rfl) (fun _ _ _ h => h) (Or.inr ⟨by rfl, rfl⟩) (by assumption) ?_
                                  try simp only [Act.put, List.getElem_toArray, List.getElem_cons_succ, List.getElem_cons_zero, List.setIfInBounds_toArray, List.set_cons_zero, List.set_cons_succ]
                                  refine wpAnyH_take (i := 58) (v := undef) rfl (by kernel_rfl) (by kernel_rfl) (by kernel_rfl) (fun _ _ _ h => h) (Or.inr ⟨by rfl, rfl⟩) (by assumption) ?_
                                  try simp only [Act.put, List.getElem_toArray, List.getElem_cons_succ, List.getElem_cons_zero, List.setIfInBounds_toArray, List.set_cons_zero, List.set_cons_succ]
                                  refine wpAnyH_take (i := 59) (v := undef) rfl (by kernel_rfl) (by kernel_rfl) (by kernel_rfl) (fun _ _ _ h => h) (Or.inr ⟨by rfl, rfl⟩) (by assumption) ?_
                                  try simp only [Act.put, List.getElem_toArray, List.getElem_cons_succ, List.getElem_cons_zero, List.setIfInBounds_toArray, List.set_cons_zero, List.set_cons_succ]
                                  refine wpAnyH_take (i := 60) (v := undef) rfl (by kernel_rfl) (by kernel_rfl) (by kernel_rfl) (fun _ _ _ h => h) (Or.inr ⟨by rfl, rfl⟩) (by assumption) ?_
                                  try simp only [Act.put, List.getElem_toArray, List.getElem_cons_succ, List.getElem_cons_zero, List.setIfInBounds_toArray, List.set_cons_zero, List.set_cons_succ]
                                  refine wpAnyH_take (i := 61) (v := undef) rfl (by kernel_rfl) (by kernel_rfl) (by kernel_rfl) (fun _ _ _ h => h) (Or.inr ⟨by rfl, rfl⟩) (by assumption) ?_
                                  try simp only [Act.put, List.getElem_toArray, List.getElem_cons_succ, List.getElem_cons_zero, List.setIfInBounds_toArray, List.set_cons_zero, List.set_cons_succ]
                                  refine wpAnyH_take (i := 62) (v := ?_) rfl (by kernel_rfl) (by kernel_rfl) (by kernel_rfl) (fun _ _ _ h => h) (Or.inl ⟨by rfl, ?_⟩) (by assumption) ?_
                                  rotate_left
                                  focus
                                    intro w hSw
                                    (try dsimp only at hSw)
                                    (try go_split_ands)
                                    go_simp
                                    try with_reducible rfl
                                  try simp only [Act.put, List.getElem_toArray, List.getElem_cons_succ, List.getElem_cons_zero, List.setIfInBounds_toArray, List.set_cons_zero, List.set_cons_succ]
                                  refine wpAnyH_take (i := 63) (v := ?_) rfl (by kernel_rfl) (by kernel_rfl) (by kernel_rfl) (fun _ _ _ h => h) (Or.inl ⟨by rfl, ?_⟩) (by assumption) ?_
                                  rotate_left
                                  focus
                                    intro w hSw
                                    (try dsimp only at hSw)
                                    (try go_split_ands)
                                    go_simp
                                    try with_reducible rfl
                                  try simp only [Act.put, List.getElem_toArray, List.getElem_cons_succ, List.getElem_cons_zero, List.setIfInBounds_toArray, List.set_cons_zero, List.set_cons_succ]
                                  refine wpAnyH_done (by kernel_rfl) ?_ _
                                  go_wp2_with fail
                                  have hF : Below wr.heap.size wr wb := hS.2.2.2
                                  go_roundw
                                  case rel => exact ⟨q + 1, false, by go_num, rfl, by omega, Lib.hid (by rw [lastTo_succ, HQ.out]; simp), hBi.on hF⟩
                                  case measure => simp [intOf]; omega
                    · obtain rfl : n0 = q := by omega
                      obtain ⟨e0, e1, e2, e3, e4, e5, e6, e7⟩ := hA1
                      clear e0 e1 e2 e4 e5 e6 e7
                      cases lb
                      · go_wp2_with fail
                        go_roundw
                        case rel => exact ⟨j + 1, mb, true, by go_num, rfl, rfl, by omega, Lib.hid (by rw [metTo_succ, HLEN.out, ← HL.out, Bool.and_false, Bool.or_false]; exact HM.out), Lib.hid (by rw [someTo_succ, pass_on HX.out HP.out, Bool.or_true]), hBo.on hBi⟩
                        case measure => simp [intOf]; omega
                      · have hat := last_at HX.out HP.out (by rw [HLEN.out]; exact HL.out.symm)
                        have HF1 : Hid (true = metTo l kk dy kn (j + 1)) := Lib.hid (by rw [metTo_succ, HLEN.out, ← HL.out, pass_on HX.out HP.out]; simp)
                        have HF2 : Hid (true = someTo l kk dy kn (j + 1)) := Lib.hid (by rw [someTo_succ, pass_on HX.out HP.out, Bool.or_true])
                        have hBB := hBo.on hBi
                        by_cases hv : x.val < 0
                        · have hv2 : decide (0 ≤ x.val) = false := decide_eq_false (by omega)
                          obtain rfl : ao = false := by rw [← HAO.out]; unfold atOk; rw [hat, if_pos hv]; rfl
                          clear hat hv
                          go_wp2_with fail
                          go_roundw
                          case rel => exact ⟨j + 1, true, true, by go_num, rfl, rfl, by omega, HF1, HF2, hBB⟩
                          case measure => simp [intOf]; omega
                        · have hv2 : decide (0 ≤ x.val) = true := decide_eq_true (by omega)
                          obtain rfl : ao = true := by rw [← HAO.out]; unfold atOk; rw [hat, if_neg hv]; rfl
                          obtain rfl : av = x.val := by rw [← HAV.out]; unfold atV; rw [hat, if_neg hv]; rfl
                          have hv3 : (x.val != x.val) = false := by simp
                          clear hat hv
                          go_wp2_with fail
                          go_roundw
                          case rel => exact ⟨j + 1, true, true, by go_num, rfl, rfl, by omega, HF1, HF2, hBB⟩
                          case measure => simp [intOf]; omega
                · have HP : Hid (passAt l kk dy kn j = false) := Lib.hid (pass_key HX.out (by rw [cB_of, not_lt_dec t4]; simp))
                  as_aux_lemma =>
                    go_wp2_with (go_quiet (fail))
                    go_roundw
                    case rel => exact ⟨j + 1, mb, sb, by go_num, rfl, rfl, by omega, Lib.hid (by rw [metTo_succ, HP.out, Bool.false_and, Bool.or_false]; exact HM.out), Lib.hid (by rw [someTo_succ, HP.out, Bool.or_false]; exact HS.out), hB.on (Below.drewN0 _ _)⟩
                    case measure => simp [intOf]; omega
              · have HP : Hid (passAt l kk dy kn j = false) := Lib.hid (pass_key HX.out (by rw [cB_of, not_le_dec t3]; simp))
                as_aux_lemma =>
                  go_wp2_with (go_quiet (fail))
                  go_roundw
                  case rel => exact ⟨j + 1, mb, sb, by go_num, rfl, rfl, by omega, Lib.hid (by rw [metTo_succ, HP.out, Bool.false_and, Bool.or_false]; exact HM.out), Lib.hid (by rw [someTo_succ, HP.out, Bool.or_false]; exact HS.out), hB.on (Below.drewN0 _ _)⟩
                  case measure => simp [intOf]; omega
            · have HP : Hid (passAt l kk dy kn j = false) := Lib.hid (pass_key HX.out (by rw [cB_of, not_lt_dec t2]; simp))
              as_aux_lemma =>
                go_wp2_with (go_quiet (fail))
                go_roundw
                case rel => exact ⟨j + 1, mb, sb, by go_num, rfl, rfl, by omega, Lib.hid (by rw [metTo_succ, HP.out, Bool.false_and, Bool.or_false]; exact HM.out), Lib.hid (by rw [someTo_succ, HP.out, Bool.or_false]; exact HS.out), hB.on (Below.drewN0 _ _)⟩
                case measure => simp [intOf]; omega
        · obtain rfl : n0 = j := by omega
          obtain ⟨hm1, hm2⟩ := met_some l kk dy kn
          rw [HLEN.out, ← HM.out, ← HS.out] at hm1
          rw [HLEN.out, ← HS.out] at hm2
          obtain rfl : mb = sb := hm1
          cases mb
          · have hno := hm2 rfl
            obtain rfl : ao = false := by rw [← HAO.out]; unfold atOk; rw [hno]; rfl
            obtain rfl : av = 0 := by rw [← HAV.out]; unfold atV; rw [hno]; rfl
            clear hm2 hno HM HS
            go_wp2_with fail
            go_ret
            exact ⟨rfl, hal3.on hB⟩
          · clear hm2 HM HS
            cases ao
            · obtain rfl : av = 0 := by rw [← HAV.out]; exact at_off HAO.out
              go_wp2_with fail
              go_ret
              exact ⟨rfl, hal3.on hB⟩
            · go_wp2_with fail
              go_ret
              exact ⟨rfl, hal3.on hB⟩
    · obtain rfl : n0 = 0 := by omega
      have hl0 : l = [] := List.eq_nil_of_length_eq_zero h0.len
      have hno : ∀ k, atF l k dy kn = none := fun k => at_none l k dy kn (by rw [hl0]; simp)
      have HNO := Lib.hid hno
      clear hno hl0
      go_enter Try.func8, Try.ntmps8
      go_wp2_with fail
      rw [HW.out]
      refine (sane04_any _).mono ?_
      rintro e w1 ⟨rfl, hB1⟩
      go_wp2_with fail
      have hc := few04_any _ _ c0 l w1 (h0W.below hB1)
      rw [HF.out] at hc
      refine hc.mono ?_
      rintro e w2 ⟨rfl, rfl⟩
      clear hc
      replace HBX := HBX.below hB1
      replace hal := hal.on hB1
      clear h0W hB1
      have HK := Box3 HBX
      have hal3 := hal
      obtain ⟨q0, q1, q2⟩ := Box3 HBX
      clear hal HBX
      go_wp2_with fail
      refine (at_any _ _ c0 l k dy kn w2 (h0.below hal3)).mono ?_
      rintro e w4 ⟨rfl, hB4⟩
      replace HK : K3 w4 W.heap.size k := K3.below HK hB4
      replace hal3 := hal3.on hB4
      clear hB4
      obtain ⟨av, hav⟩ : ∃ av, atV l k dy kn = av := ⟨_, rfl⟩
      obtain ⟨ao, hao⟩ : ∃ ao, atOk l k dy kn = ao := ⟨_, rfl⟩
      rw [hav, hao]
      have HAV := Lib.hid hav
      have HAO := Lib.hid hao
      clear hav hao
      obtain rfl : ao = false := by rw [← HAO.out]; unfold atOk; rw [HNO.out]; rfl
      obtain rfl : av = 0 := by rw [← HAV.out]; unfold atV; rw [HNO.out]; rfl
      go_wp2_with fail
      go_loopw [11, 12, 13] (fun m s i wr => i = .int .i64 0 ∧ m = .bool false ∧ s = .bool false ∧ wr = w4) (fun _ _ _ _ => 0)
      case atStart => exact ⟨rfl, rfl, rfl, rfl⟩
      case round =>
        obtain ⟨rfl, rfl, rfl, rfl⟩ := hrel
        go_wp2_with fail
        go_ret
        exact ⟨rfl, hal3⟩
end Go.Proofs.Ytfhekhjojdhmhaa
namespace Go.Proofs.Ytfhekhjojdhmhaa
open Go.ChangeShapes Go.WideShapes Go.ChangeAt Go.RowKit Go.Deep
set_option maxRecDepth 100000 in
set_option maxHeartbeats 2000000 in
theorem lifted_Counts (os : Os) (started : os.Started) (H : Type) (enc : TypeId × Value → H) :
    ReturnsInHanded {} Try.checked os 8 .any (Rows.factsCountsSpec.pre6 enc Try.prog Try.f8 Rows.factsCountsRow.domain false) (Rows.factsCountsSpec.post enc Try.prog Try.f8 false true false false) := by
  refine returnsInHanded_of_change (C := Try.checked) row_own started (by kernel_rfl) Try.func8
    (ChangeSpec.witness6 (enc := enc) (C := Try.checked) false ⟨#[], #[.slice none 0 0, .agg #[.int .i64 0, .int .i64 0, .int .i64 0], .int .i64 0, .int .i64 0], []⟩ 8 (by kernel_rfl) (by kernel_rfl) (by kernel_rfl) (by kernel_rfl)) ?_
  intro W base args ds gs before hval0 hW _ _
  have hval : ∀ (j : Nat) t v, Try.f8.params[j]? = some t → args[j]? = some v → Value.okWide Try.prog W .any base t v := hval0
  have hW' := hW
  obtain ⟨p, q, hA0, hV, rfl, _, _⟩ := hW
  have hA : DataW.TrodAll enc Try.prog W 0 (fun _ => true) true Try.f8.params.toList args.toList ds p := hA0
  rw [Try.params8] at hA hval
  obtain ⟨v0, v1, v2, v3, d0, d1, d2, d3, p0, p1, p2, p3, rfl, rfl, rfl, h0, h1, h2, h3⟩ := trodAll_four hA
  obtain ⟨rfl, rfl⟩ := trodVars_none hV
  obtain ⟨a0, n0, c0, l, rfl, h0', hok⟩ := open_facts (hval 0 22 v0 rfl rfl) h0
  obtain ⟨k, rfl, hokk⟩ := open_key (hval 1 24 v1 rfl rfl) h1
  obtain ⟨x2, rfl, rfl, rfl, _⟩ := open_int Try.underlying3 (hval 2 3 v2 rfl rfl) h2
  obtain ⟨x3, rfl, rfl, rfl, _⟩ := open_int Try.underlying3 (hval 3 3 v3 rfl rfl) h3
  refine (lawCounts_any a0 n0 c0 l k x2 x3 W h0').mono fun e W' ⟨he, hb⟩ => ?_
  subst he
  exact ⟨_, rfl, law_post hW' rfl rfl (by kernel_rfl) rfl hb⟩
set_option maxHeartbeats 2000000 in
theorem closed_Counts : joinedFacts Try.prog 8 Try.f8 Rows.factsCountsSpec Rows.factsCountsRow = true := by
  unfold joinedFacts
  refine bt (bt (bt (bt (bt (bt (bt (bt (bt (bt (bt (bt (bt (bt (bt (bt (bt (bt (bt (bt (bt (bt (bt (bt (bt (bt (bt (bt (bt (bt (bt ?a0 ?a1) ?a2) ?a3) ?a4) ?a5) ?a6) ?a7) ?a8) ?a9) ?a10) ?a11) ?a12) ?a13) ?a14) ?a15) ?a16) ?a17) ?a18) ?a19) ?a20) ?a21) ?a22) ?a23) ?a24) ?a25) ?a26) ?a27) ?a28) ?a29) ?a30) ?a31
  case a25 => exact prog_enter
  case a26 => exact prog_lifts
  case a27 => exact prog_make
  all_goals as_aux_lemma => kernel_rfl
theorem factsCounts_holds : Rows.FactsCountsSaid :=
  OpenClaim.holds_of_wide 8 Try.f8 rfl rfl rfl rfl rfl rfl rfl ⟨rfl, rfl, rfl, rfl, rfl⟩ rfl rfl rfl rfl rfl (by kernel_rfl) Try.func8 closed_Counts
    (of_decide_eq_true (by kernel_rfl)) (by unfold Func.isWrapper; rw [if_neg (of_decide_eq_false (by kernel_rfl))]; exact ⟨rfl, rfl⟩)
    (fun os started H enc _ => lifted_Counts os started H enc)
#print axioms factsCounts_holds
end Go.Proofs.Ytfhekhjojdhmhaa
