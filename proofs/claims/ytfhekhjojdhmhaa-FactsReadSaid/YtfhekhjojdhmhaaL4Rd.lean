/- A read is alike exactly if no change touches it (law04.FactsRead), at every input. -/
import Derived.Test.YtfhekhjojdhmhaaSane4
import Derived.Test.YtfhekhjojdhmhaaRow4
import Derived.Test.YtfhekhjojdhmhaaHeadF
import Derived.Test.YtfhekhjojdhmhaaL4RdM
import Derived.Test.YtfhekhjojdhmhaaL4Chg
import Derived.Deep.LoopGhost
import Derived.Deep.RegionHeld3
import Derived.WalkKit
import Derived.WalkSpells
import Derived.WalkLawsBesides
import Derived.Deep.LoopGhost
import Derived.Deep.QuietTactic
import Derived.BigQuiet
import Derived.StillTailTactics
import Derived.Lib.Hide
import Derived.Outline
import Derived.Lib.QuietBelow
namespace Go.Proofs.Ytfhekhjojdhmhaa
open Go.RowKit

theorem keepA {w0 w w' : World} {b o b2 : Nat} {k : Key} {v : Value} (h : At3 w b o k ∧ w.cell? ⟨b2, 0, none⟩ = some v ∧ Below w0.heap.size w0 w) (hb : Below w.heap.size w w') : At3 w' b o k ∧ w'.cell? ⟨b2, 0, none⟩ = some v ∧ Below w0.heap.size w0 w' :=
  ⟨h.1.below hb, (hb.cell (p := ⟨b2, 0, none⟩) (World.block_lt_of_cell? w _ h.2.1)).trans h.2.1, h.2.2.on hb⟩
theorem R5.of {w : World} {b : Nat} {r : Rd} {t : TypeId} (h : Box w b #[.int .i64 r.kd, .int .i64 r.sb, .int .i64 r.ob, .int .i64 r.fr, .int .i64 r.til] t) : w.cell? ⟨b, 0, none⟩ = some (.int .i64 r.kd) ∧ w.cell? ⟨b, 1, none⟩ = some (.int .i64 r.sb) ∧ w.cell? ⟨b, 2, none⟩ = some (.int .i64 r.ob) ∧ w.cell? ⟨b, 3, none⟩ = some (.int .i64 r.fr) ∧ w.cell? ⟨b, 4, none⟩ = some (.int .i64 r.til) :=
  ⟨h.cell 0, h.cell 1, h.cell 2, h.cell 3, h.cell 4⟩

/-- One change, in all later worlds. -/
theorem DL.el' {w : World} {b o n c : Nat} {ds : List Dif} (h : DL w (some ⟨b, o, none⟩) n c ds) {i : Nat} {d : Dif} (hd : ds[i]? = some d) :
    ∃ a' n' c', ∀ w', Below w.heap.size w w' → At3 w' b (o + i * 4) d.1 ∧ w'.cell? ⟨b, o + i * 4 + 3, none⟩ = some (.slice a' n' c') ∧ SL encP 2 w' a' n' c' d.2 := by
  obtain ⟨e0, e1, e2, a', n', c', e3, hS⟩ := h.el hd
  refine ⟨a', n', c', fun w' hb => ?_⟩
  have l := World.block_lt_of_cell? w _ e0
  exact ⟨⟨(hb.cell (p := ⟨b, o + i * 4, none⟩) l).trans e0, (hb.cell (p := ⟨b, o + i * 4 + 1, none⟩) l).trans e1, (hb.cell (p := ⟨b, o + i * 4 + 2, none⟩) l).trans e2⟩, (hb.cell (p := ⟨b, o + i * 4 + 3, none⟩) l).trans e3, hS.below hb⟩

set_option maxRecDepth 20000 in
set_option maxHeartbeats 8000000 in
theorem lawRead_any (a0 : Option Addr) (n0 c0 : Nat) (l : List Fact) (r : Rd) (bf af : Int) (W : World) (h0 : SL encF 8 W a0 n0 c0 l) (hok : ∀ x ∈ l, okF x) :
    Calls Try.prog 9 #[.slice a0 n0 c0, .agg #[.int .i64 r.kd, .int .i64 r.sb, .int .i64 r.ob, .int .i64 r.fr, .int .i64 r.til], .int .i64 bf, .int .i64 af] W fun e w' => e = .returned (.bool true) ∧ Below W.heap.size W w' := by
  have HOK := Lib.hid hok
  clear hok
  have hg := guard_key
  have hal : Below W.heap.size W (W.alloc (.cells #[.int .i64 r.kd, .int .i64 r.sb, .int .i64 r.ob, .int .i64 r.fr, .int .i64 r.til] 54)) := (Below.refl _ _).alloc (Nat.le_refl _) _
  have HBX := Box.new W #[.int .i64 r.kd, .int .i64 r.sb, .int .i64 r.ob, .int .i64 r.fr, .int .i64 r.til] 54
  obtain ⟨w0, hw0⟩ : ∃ w0, W.alloc (.cells #[.int .i64 r.kd, .int .i64 r.sb, .int .i64 r.ob, .int .i64 r.fr, .int .i64 r.til] 54) = w0 := ⟨_, rfl⟩
  rw [hw0] at hal HBX
  have HW := Lib.hid hw0
  clear hw0
  by_cases h10 : n0 ≤ 10
  · have t0 : ¬ (10 : Int) < (n0 : Int) := by omega
    go_enter Try.func9, Try.ntmps9
    go_wp2_with fail
    rw [HW.out]
    refine (sane04_any _).mono ?_
    rintro e w1 ⟨rfl, hB1⟩
    replace hal := hal.on hB1
    replace HBX := HBX.below hB1
    clear hB1
    go_wp2_with fail
    refine (changed_any a0 n0 c0 l bf af w1 (h0.below hal) (by omega) (fun f hf => (HOK.out f hf).key)).mono ?_
    rintro e w2 hr
    obtain ⟨ca, cn, cc, rfl, hC, hB⟩ := hr.out
    replace hal := hal.on hB
    replace HBX := HBX.below hB
    obtain ⟨ds, hds⟩ : ∃ ds, changedL l bf af = ds := ⟨_, rfl⟩
    rw [hds] at hC
    have HDS := Lib.hid hds
    have hcl := hC.cap
    have hcm := hcl.2
    unfold maxLen at hcm
    have HCN := Lib.hid hC.len
    clear hB hr hds
    go_wp2_with fail
    go_loopw [10, 11] (fun h i wr => ∃ (j : Nat) (hb : Bool), i = .int .i64 j ∧ h = .bool hb ∧ j ≤ cn ∧ Hid (hb = touchI r ds j) ∧ Below w2.heap.size w2 wr) (fun _ i _ => cn - (intOf i).toNat)
    case atStart => exact ⟨0, false, rfl, rfl, by omega, Lib.hid rfl, Below.refl _ _⟩
    case round =>
      obtain ⟨j, hb, rfl, rfl, hj, HH, hB⟩ := hrel
      by_cases hlt : j < cn
      · obtain ⟨cb, co, rfl, hcb⟩ := hC.at' (by omega)
        obtain ⟨d, hd⟩ := hC.get hlt
        have s0 : (0 : Int) ≤ (j : Int) := by omega
        have s1 : (j : Int) < (cn : Int) := by omega
        obtain ⟨da, dn, dc, hEL⟩ := (hC.below hB).el' hd
        obtain ⟨⟨e0, e1, e2⟩, e3, hD⟩ := hEL _ (Below.refl _ _)
        have HEL := Lib.hid hEL
        have HD := Lib.hid hd
        have hdl := hD.cap
        clear hEL
        have hdm := hD.mx
        unfold maxLen at hdm
        have HDN := Lib.hid hD.len
        clear hd hD
        go_wp2_with fail
        obtain ⟨wo, rfl⟩ : ∃ wo, wo = wr := ⟨_, rfl⟩
        go_loopw [10, 12] (fun h i wi => ∃ (q : Nat) (hb' : Bool), i = .int .i64 q ∧ h = .bool hb' ∧ q ≤ dn ∧ Hid (hb' = (touchI r ds j || touchQ r d q)) ∧ Below wo.heap.size wo wi) (fun _ i _ => dn - (intOf i).toNat)
        case atStart => exact ⟨0, hb, rfl, rfl, by omega, Lib.hid (by rw [HH.out]; simp [touchQ]), Below.refl _ _⟩
        case round =>
          clear e0 e1 e2 e3
          obtain ⟨q, hb', rfl, rfl, hq, HH2, hBi⟩ := hrel
          obtain ⟨⟨e0, e1, e2⟩, e3, hD⟩ := HEL.out _ hBi
          by_cases hltq : q < dn
          · obtain ⟨sb, so, rfl, hsb⟩ := hD.at' (by omega)
            obtain ⟨sp, hsp⟩ := hD.get hltq
            obtain ⟨f0, f1⟩ := hD.pair hsp
            have HSP := Lib.hid hsp
            have u0 : (0 : Int) ≤ (q : Int) := by omega
            have u1 : (q : Int) < (dn : Int) := by omega
            obtain ⟨v1, v2, v3, v4, v5⟩ := span_first (l := l) (s := bf) (t := af) (by rw [HDS.out]; exact HD.out) hsp
            have p1 : decide (sp.2 ≤ sp.1) = false := decide_eq_false (by omega)
            have p2 : decide (sp.1 < 0) = false := decide_eq_false (by omega)
            have p3 : decide (1024 < sp.2) = false := decide_eq_false (by omega)
            have V4 := Lib.hid v4
            have V5 := Lib.hid v5
            clear hsp v4 v5 hD
            obtain ⟨wv, hwv, hbk, hbox⟩ : ∃ wx, wr.alloc (.cells #[.int .i64 sp.1, .int .i64 sp.2] 26) = wx ∧ Below wr.heap.size wr wx ∧ Box wx wr.heap.size #[.int .i64 sp.1, .int .i64 sp.2] 26 := ⟨_, rfl, (Below.refl _ _).alloc (Nat.le_refl _) _, Box.new _ _ _⟩
            obtain ⟨⟨g0, g1, g2⟩, g3, hDv⟩ := HEL.out _ (hBi.on hbk)
            have x0 := hbox.cell 0
            have x1 := hbox.cell 1
            by_cases hq0 : 0 < q
            · obtain ⟨sr, hsr⟩ := hDv.get (i := q - 1) (by omega)
              obtain ⟨h6, h7⟩ := hDv.pair hsr
              have v6 := V5.out (q - 1) sr (by omega) hsr
              have p4 : decide (sp.1 ≤ sr.2) = false := decide_eq_false (by omega)
              have u2 : IntKind.i64.wrap ((q : Int) - 1) = (q : Int) - 1 := by rw [IntKind.wrap_i64]; omega
              have u3 : (q : Int) - 1 < dn := by omega
              have u4 : ((q : Int) - 1).toNat = q - 1 := by omega
              have u5 : (0 : Int) ≤ (q : Int) - 1 := by omega
              have u6 : (1 : Int) ≤ (q : Int) := by omega
              have u7 : decide ((0 : Int) < (q : Int)) = true := decide_eq_true (by omega)
              clear hsr hDv
              go_wp2_with (go_quiet (fail))
              obtain ⟨wx, hwx⟩ : ∃ wx, wv.drewN nq = wx := ⟨_, rfl⟩
              have hbx : Below wv.heap.size wv wx := hwx ▸ Below.drewN0 _ _
              rw [hwx]
              have hBx := hBi.on (hbk.on hbx)
              have hAk : At3 wx cb (co + j * 4) d.1 := (HEL.out _ hBx).1
              have hbox2 := hbox.below hbx
              have hX0 := hbox2.cell 0
              have hX1 := hbox2.cell 1
              have HXX := Lib.hid (fun (V : World) (hV : Below wx.heap.size wx V) => (show V.cell? ⟨wr.heap.size, 0, none⟩ = some (.int .i64 sp.1) ∧ V.cell? ⟨wr.heap.size, 1, none⟩ = some (.int .i64 sp.2) ∧ True from ⟨(hbox2.below hV).cell 0, (hbox2.below hV).cell 1, trivial⟩))
              obtain ⟨v1, o1, hp1, HA1⟩ : ∃ v1 o1, (atV l d.1 sp.1 bf = v1 ∧ atOk l d.1 sp.1 bf = o1) ∧ Hid (∀ V, Below wx.heap.size wx V → Calls Try.prog 18 #[.slice a0 n0 c0, keyV d.1, .int .i64 sp.1, .int .i64 bf] V fun e w' => e = .returned (.tuple #[.int .i64 v1, .bool o1]) ∧ Below V.heap.size V w') := ⟨_, _, ⟨rfl, rfl⟩, Lib.hid (fun V hV => at_any _ _ c0 l d.1 sp.1 bf V (h0.below ((hal.on hB).on (hBx.on hV))))⟩
              obtain ⟨v2, o2, hp2, HA2⟩ : ∃ v1 o1, (atV l d.1 sp.1 af = v1 ∧ atOk l d.1 sp.1 af = o1) ∧ Hid (∀ V, Below wx.heap.size wx V → Calls Try.prog 18 #[.slice a0 n0 c0, keyV d.1, .int .i64 sp.1, .int .i64 af] V fun e w' => e = .returned (.tuple #[.int .i64 v1, .bool o1]) ∧ Below V.heap.size V w') := ⟨_, _, ⟨rfl, rfl⟩, Lib.hid (fun V hV => at_any _ _ c0 l d.1 sp.1 af V (h0.below ((hal.on hB).on (hBx.on hV))))⟩
              have hpa := at_parts V4.out
              rw [hp1.1, hp1.2, hp2.1, hp2.2] at hpa
              clear hp1 hp2 hwx hwv x0 x1 g0 g1 g2 g3 e0 e1 e2 e3 f0 f1 p1 p2 p3
              go_wp2_with fail
              go_region_held3 (fun w' => (w'.cell? ⟨cb, co + j * 4, none⟩ = some (.int .i64 d.1.kd) ∧ w'.cell? ⟨cb, co + j * 4 + 1, none⟩ = some (.int .i64 d.1.sb) ∧ w'.cell? ⟨cb, co + j * 4 + 2, none⟩ = some (.int .i64 d.1.ob)) ∧ w'.cell? ⟨wr.heap.size, 0, none⟩ = some (.int .i64 sp.1) ∧ Below wx.heap.size wx w')
                (first | exact ⟨hAk, hX0, (Below.refl _ _).drew⟩ | exact keepA (by assumption) (by assumption))
                (first | (go_at_call 18; refine (HA1.out _ (by go_split_ands; assumption)).mono ?_; rintro e w' ⟨rfl, hb⟩))
              have hbw : Below wx.heap.size wx w' := (‹_ ∧ _ ∧ Below wx.heap.size wx w'›).2.2
              have hAk2 : At3 w' cb (co + j * 4) d.1 := hAk.below hbw
              have hX02 := (HXX.out _ hbw).1
              clear hX0 hX1 hb
              go_wp2_with fail
              go_region_held3 (fun w'' => (w''.cell? ⟨cb, co + j * 4, none⟩ = some (.int .i64 d.1.kd) ∧ w''.cell? ⟨cb, co + j * 4 + 1, none⟩ = some (.int .i64 d.1.sb) ∧ w''.cell? ⟨cb, co + j * 4 + 2, none⟩ = some (.int .i64 d.1.ob)) ∧ w''.cell? ⟨wr.heap.size, 0, none⟩ = some (.int .i64 sp.1) ∧ Below wx.heap.size wx w'')
                (first | exact ⟨hAk2, hX02, hbw.drew⟩ | exact keepA (by assumption) (by assumption))
                (first | (go_at_call 18; refine (HA2.out _ (by go_split_ands; assumption)).mono ?_; rintro e w4 ⟨rfl, hb⟩))
              have hbw4 : Below wx.heap.size wx w4 := (‹_ ∧ _ ∧ Below wx.heap.size wx w4›).2.2
              have hBF : Below wo.heap.size wo w4 := hBx.on hbw4
              have hSF := HEL.out _ hBF
              have hXF := HXX.out _ hbw4
              clear hX02 hAk2 hbw hAk hb
              rcases hpa with m1 | ⟨m1, m2⟩
              · skip
                go_wp2_with fail
                obtain ⟨r0, r1, r2, r3, r4⟩ := R5.of ((HBX.below hB).below hBF)
                obtain ⟨⟨y0, y1, y2⟩, y3⟩ := hSF
                obtain ⟨z0, z1, _⟩ := hXF
                have hE : ∀ w, (Op.equalIn 10000 24 (.agg #[.int .i64 d.1.kd, .int .i64 d.1.sb, .int .i64 d.1.ob]) (.agg #[.int .i64 r.kd, .int .i64 r.sb, .int .i64 r.ob])).run Try.prog w = .ok (decide (d.1 = r.key)) w := eqInD_key 9998 d.1 r.key
                cases t1 : decide (d.1 = r.key)
                · rw [t1] at hE
                  have TK := Lib.hid t1
                  clear t1
                  go_wp2_with (go_quiet (fail))
                  go_roundw
                  case rel => exact ⟨q + 1, hb', by go_num, rfl, by omega, Lib.hid (by rw [touchQ_succ HSP.out, TK.out, Bool.false_and]; simpa using HH2.out), (hBF.on (Below.drewN0 _ _))⟩
                  case measure => simp [intOf]; omega
                · rw [t1] at hE
                  have TK := Lib.hid t1
                  clear t1
                  cases t2 : decide (max r.fr sp.1 < min r.til sp.2)
                  · have TO := Lib.hid t2
                    go_wp2_with (go_quiet (fail))
                    go_roundw
                    case rel => exact ⟨q + 1, hb', by go_num, rfl, by omega, Lib.hid (by rw [touchQ_succ HSP.out, show ovB r sp = false from TO.out, Bool.and_false]; simpa using HH2.out), (hBF.on (Below.drewN0 _ _))⟩
                    case measure => simp [intOf]; omega
                  · have TO := Lib.hid t2
                    go_wp2_with (go_quiet (fail))
                    go_roundw
                    case rel => exact ⟨q + 1, true, by go_num, rfl, by omega, Lib.hid (by rw [touchQ_succ HSP.out, TK.out, show ovB r sp = true from TO.out]; simp), (hBF.on (Below.drewN0 _ _))⟩
                    case measure => simp [intOf]; omega
              · skip
                go_wp2_with fail
                obtain ⟨r0, r1, r2, r3, r4⟩ := R5.of ((HBX.below hB).below hBF)
                obtain ⟨⟨y0, y1, y2⟩, y3⟩ := hSF
                obtain ⟨z0, z1, _⟩ := hXF
                have hE : ∀ w, (Op.equalIn 10000 24 (.agg #[.int .i64 d.1.kd, .int .i64 d.1.sb, .int .i64 d.1.ob]) (.agg #[.int .i64 r.kd, .int .i64 r.sb, .int .i64 r.ob])).run Try.prog w = .ok (decide (d.1 = r.key)) w := eqInD_key 9998 d.1 r.key
                cases t1 : decide (d.1 = r.key)
                · rw [t1] at hE
                  have TK := Lib.hid t1
                  clear t1
                  go_wp2_with (go_quiet (fail))
                  go_roundw
                  case rel => exact ⟨q + 1, hb', by go_num, rfl, by omega, Lib.hid (by rw [touchQ_succ HSP.out, TK.out, Bool.false_and]; simpa using HH2.out), (hBF.on (Below.drewN0 _ _))⟩
                  case measure => simp [intOf]; omega
                · rw [t1] at hE
                  have TK := Lib.hid t1
                  clear t1
                  cases t2 : decide (max r.fr sp.1 < min r.til sp.2)
                  · have TO := Lib.hid t2
                    go_wp2_with (go_quiet (fail))
                    go_roundw
                    case rel => exact ⟨q + 1, hb', by go_num, rfl, by omega, Lib.hid (by rw [touchQ_succ HSP.out, show ovB r sp = false from TO.out, Bool.and_false]; simpa using HH2.out), (hBF.on (Below.drewN0 _ _))⟩
                    case measure => simp [intOf]; omega
                  · have TO := Lib.hid t2
                    go_wp2_with (go_quiet (fail))
                    go_roundw
                    case rel => exact ⟨q + 1, true, by go_num, rfl, by omega, Lib.hid (by rw [touchQ_succ HSP.out, TK.out, show ovB r sp = true from TO.out]; simp), (hBF.on (Below.drewN0 _ _))⟩
                    case measure => simp [intOf]; omega
            · have u7 : decide ((0 : Int) < (q : Int)) = false := decide_eq_false (by omega)
              have u8 : decide (0 < q) = false := decide_eq_false hq0
              clear hDv hq0
              go_wp2_with (go_quiet (fail))
              obtain ⟨wx, hwx⟩ : ∃ wx, wv.drewN nq = wx := ⟨_, rfl⟩
              have hbx : Below wv.heap.size wv wx := hwx ▸ Below.drewN0 _ _
              rw [hwx]
              have hBx := hBi.on (hbk.on hbx)
              have hAk : At3 wx cb (co + j * 4) d.1 := (HEL.out _ hBx).1
              have hbox2 := hbox.below hbx
              have hX0 := hbox2.cell 0
              have hX1 := hbox2.cell 1
              have HXX := Lib.hid (fun (V : World) (hV : Below wx.heap.size wx V) => (show V.cell? ⟨wr.heap.size, 0, none⟩ = some (.int .i64 sp.1) ∧ V.cell? ⟨wr.heap.size, 1, none⟩ = some (.int .i64 sp.2) ∧ True from ⟨(hbox2.below hV).cell 0, (hbox2.below hV).cell 1, trivial⟩))
              obtain ⟨v1, o1, hp1, HA1⟩ : ∃ v1 o1, (atV l d.1 sp.1 bf = v1 ∧ atOk l d.1 sp.1 bf = o1) ∧ Hid (∀ V, Below wx.heap.size wx V → Calls Try.prog 18 #[.slice a0 n0 c0, keyV d.1, .int .i64 sp.1, .int .i64 bf] V fun e w' => e = .returned (.tuple #[.int .i64 v1, .bool o1]) ∧ Below V.heap.size V w') := ⟨_, _, ⟨rfl, rfl⟩, Lib.hid (fun V hV => at_any _ _ c0 l d.1 sp.1 bf V (h0.below ((hal.on hB).on (hBx.on hV))))⟩
              obtain ⟨v2, o2, hp2, HA2⟩ : ∃ v1 o1, (atV l d.1 sp.1 af = v1 ∧ atOk l d.1 sp.1 af = o1) ∧ Hid (∀ V, Below wx.heap.size wx V → Calls Try.prog 18 #[.slice a0 n0 c0, keyV d.1, .int .i64 sp.1, .int .i64 af] V fun e w' => e = .returned (.tuple #[.int .i64 v1, .bool o1]) ∧ Below V.heap.size V w') := ⟨_, _, ⟨rfl, rfl⟩, Lib.hid (fun V hV => at_any _ _ c0 l d.1 sp.1 af V (h0.below ((hal.on hB).on (hBx.on hV))))⟩
              have hpa := at_parts V4.out
              rw [hp1.1, hp1.2, hp2.1, hp2.2] at hpa
              clear hp1 hp2 hwx hwv x0 x1 g0 g1 g2 g3 e0 e1 e2 e3 f0 f1 p1 p2 p3
              go_wp2_with fail
              go_region_held3 (fun w' => (w'.cell? ⟨cb, co + j * 4, none⟩ = some (.int .i64 d.1.kd) ∧ w'.cell? ⟨cb, co + j * 4 + 1, none⟩ = some (.int .i64 d.1.sb) ∧ w'.cell? ⟨cb, co + j * 4 + 2, none⟩ = some (.int .i64 d.1.ob)) ∧ w'.cell? ⟨wr.heap.size, 0, none⟩ = some (.int .i64 sp.1) ∧ Below wx.heap.size wx w')
                (first | exact ⟨hAk, hX0, (Below.refl _ _).drew⟩ | exact keepA (by assumption) (by assumption))
                (first | (go_at_call 18; refine (HA1.out _ (by go_split_ands; assumption)).mono ?_; rintro e w' ⟨rfl, hb⟩))
              have hbw : Below wx.heap.size wx w' := (‹_ ∧ _ ∧ Below wx.heap.size wx w'›).2.2
              have hAk2 : At3 w' cb (co + j * 4) d.1 := hAk.below hbw
              have hX02 := (HXX.out _ hbw).1
              clear hX0 hX1 hb
              go_wp2_with fail
              go_region_held3 (fun w'' => (w''.cell? ⟨cb, co + j * 4, none⟩ = some (.int .i64 d.1.kd) ∧ w''.cell? ⟨cb, co + j * 4 + 1, none⟩ = some (.int .i64 d.1.sb) ∧ w''.cell? ⟨cb, co + j * 4 + 2, none⟩ = some (.int .i64 d.1.ob)) ∧ w''.cell? ⟨wr.heap.size, 0, none⟩ = some (.int .i64 sp.1) ∧ Below wx.heap.size wx w'')
                (first | exact ⟨hAk2, hX02, hbw.drew⟩ | exact keepA (by assumption) (by assumption))
                (first | (go_at_call 18; refine (HA2.out _ (by go_split_ands; assumption)).mono ?_; rintro e w4 ⟨rfl, hb⟩))
              have hbw4 : Below wx.heap.size wx w4 := (‹_ ∧ _ ∧ Below wx.heap.size wx w4›).2.2
              have hBF : Below wo.heap.size wo w4 := hBx.on hbw4
              have hSF := HEL.out _ hBF
              have hXF := HXX.out _ hbw4
              clear hX02 hAk2 hbw hAk hb
              rcases hpa with m1 | ⟨m1, m2⟩
              · skip
                go_wp2_with fail
                obtain ⟨r0, r1, r2, r3, r4⟩ := R5.of ((HBX.below hB).below hBF)
                obtain ⟨⟨y0, y1, y2⟩, y3⟩ := hSF
                obtain ⟨z0, z1, _⟩ := hXF
                have hE : ∀ w, (Op.equalIn 10000 24 (.agg #[.int .i64 d.1.kd, .int .i64 d.1.sb, .int .i64 d.1.ob]) (.agg #[.int .i64 r.kd, .int .i64 r.sb, .int .i64 r.ob])).run Try.prog w = .ok (decide (d.1 = r.key)) w := eqInD_key 9998 d.1 r.key
                cases t1 : decide (d.1 = r.key)
                · rw [t1] at hE
                  have TK := Lib.hid t1
                  clear t1
                  go_wp2_with (go_quiet (fail))
                  go_roundw
                  case rel => exact ⟨q + 1, hb', by go_num, rfl, by omega, Lib.hid (by rw [touchQ_succ HSP.out, TK.out, Bool.false_and]; simpa using HH2.out), (hBF.on (Below.drewN0 _ _))⟩
                  case measure => simp [intOf]; omega
                · rw [t1] at hE
                  have TK := Lib.hid t1
                  clear t1
                  cases t2 : decide (max r.fr sp.1 < min r.til sp.2)
                  · have TO := Lib.hid t2
                    go_wp2_with (go_quiet (fail))
                    go_roundw
                    case rel => exact ⟨q + 1, hb', by go_num, rfl, by omega, Lib.hid (by rw [touchQ_succ HSP.out, show ovB r sp = false from TO.out, Bool.and_false]; simpa using HH2.out), (hBF.on (Below.drewN0 _ _))⟩
                    case measure => simp [intOf]; omega
                  · have TO := Lib.hid t2
                    go_wp2_with (go_quiet (fail))
                    go_roundw
                    case rel => exact ⟨q + 1, true, by go_num, rfl, by omega, Lib.hid (by rw [touchQ_succ HSP.out, TK.out, show ovB r sp = true from TO.out]; simp), (hBF.on (Below.drewN0 _ _))⟩
                    case measure => simp [intOf]; omega
              · skip
                go_wp2_with fail
                obtain ⟨r0, r1, r2, r3, r4⟩ := R5.of ((HBX.below hB).below hBF)
                obtain ⟨⟨y0, y1, y2⟩, y3⟩ := hSF
                obtain ⟨z0, z1, _⟩ := hXF
                have hE : ∀ w, (Op.equalIn 10000 24 (.agg #[.int .i64 d.1.kd, .int .i64 d.1.sb, .int .i64 d.1.ob]) (.agg #[.int .i64 r.kd, .int .i64 r.sb, .int .i64 r.ob])).run Try.prog w = .ok (decide (d.1 = r.key)) w := eqInD_key 9998 d.1 r.key
                cases t1 : decide (d.1 = r.key)
                · rw [t1] at hE
                  have TK := Lib.hid t1
                  clear t1
                  go_wp2_with (go_quiet (fail))
                  go_roundw
                  case rel => exact ⟨q + 1, hb', by go_num, rfl, by omega, Lib.hid (by rw [touchQ_succ HSP.out, TK.out, Bool.false_and]; simpa using HH2.out), (hBF.on (Below.drewN0 _ _))⟩
                  case measure => simp [intOf]; omega
                · rw [t1] at hE
                  have TK := Lib.hid t1
                  clear t1
                  cases t2 : decide (max r.fr sp.1 < min r.til sp.2)
                  · have TO := Lib.hid t2
                    go_wp2_with (go_quiet (fail))
                    go_roundw
                    case rel => exact ⟨q + 1, hb', by go_num, rfl, by omega, Lib.hid (by rw [touchQ_succ HSP.out, show ovB r sp = false from TO.out, Bool.and_false]; simpa using HH2.out), (hBF.on (Below.drewN0 _ _))⟩
                    case measure => simp [intOf]; omega
                  · have TO := Lib.hid t2
                    go_wp2_with (go_quiet (fail))
                    go_roundw
                    case rel => exact ⟨q + 1, true, by go_num, rfl, by omega, Lib.hid (by rw [touchQ_succ HSP.out, TK.out, show ovB r sp = true from TO.out]; simp), (hBF.on (Below.drewN0 _ _))⟩
                    case measure => simp [intOf]; omega
          · obtain rfl : dn = q := by omega
            clear hD
            go_wp2_with fail
            go_roundw
            case rel => exact ⟨j + 1, hb', by go_num, rfl, by omega, Lib.hid (by rw [touchI_succ HD.out, HDN.out]; exact HH2.out), hB.on hBi⟩
            case measure => simp [intOf]; omega
      · obtain rfl : cn = j := by omega
        have hAl := hal.on hB
        obtain ⟨r0, r1, r2, r3, r4⟩ := R5.of (HBX.below hB)
        have HAT := Lib.hid (alike_touch l r bf af)
        go_wp2_with fail
        have hbx5 := Box.new wr #[.int .i64 r.kd, .int .i64 r.sb, .int .i64 r.ob, .int .i64 r.fr, .int .i64 r.til] 54
        obtain ⟨wx, hwx, hbx⟩ : ∃ wx, wr.alloc (.cells #[.int .i64 r.kd, .int .i64 r.sb, .int .i64 r.ob, .int .i64 r.fr, .int .i64 r.til] 54) = wx ∧ Below wr.heap.size wr wx := ⟨_, rfl, (Below.refl _ _).alloc (Nat.le_refl _) _⟩
        rw [hwx] at hbx5 ⊢
        have hS := SL.box (n := 1) encR_len [r] hbx5 rfl rfl (by decide)
        refine (alike_any a0 _ n0 c0 _ _ l [r] bf af wx (h0.below (hAl.on hbx)) hS).mono ?_
        rintro e w3 ⟨rfl, hb3⟩
        have hv : alikeB l [r] bf af = !hb := by rw [HAT.out, HDS.out, HCN.out, HH.out]
        rw [hv]
        have hvv : ((!hb) == (!hb)) = true := by simp
        clear hv
        go_wp2_with fail
        go_ret
        exact ⟨rfl, (hAl.on hbx).on hb3⟩
  · have t0 : (10 : Int) < (n0 : Int) := by omega
    go_enter Try.func9, Try.ntmps9
    go_wp2_with fail
    rw [HW.out]
    refine (sane04_any _).mono ?_
    rintro e w1 ⟨rfl, hB1⟩
    go_wp2_with fail
    go_ret
    exact ⟨rfl, hal.on hB1⟩
end Go.Proofs.Ytfhekhjojdhmhaa
namespace Go.Proofs.Ytfhekhjojdhmhaa
open Go.ChangeShapes Go.WideShapes Go.ChangeAt Go.RowKit Go.Deep
set_option maxRecDepth 100000 in
set_option maxHeartbeats 2000000 in
theorem lifted_Read (os : Os) (started : os.Started) (H : Type) (enc : TypeId × Value → H) :
    ReturnsInHanded {} Try.checked os 9 .any (Rows.factsReadSpec.pre6 enc Try.prog Try.f9 Rows.factsReadRow.domain false) (Rows.factsReadSpec.post enc Try.prog Try.f9 false true false false) := by
  refine returnsInHanded_of_change (C := Try.checked) row_own started (by kernel_rfl) Try.func9
    (ChangeSpec.witness6 (enc := enc) (C := Try.checked) false ⟨#[], #[.slice none 0 0, .agg #[.int .i64 0, .int .i64 0, .int .i64 0, .int .i64 0, .int .i64 0], .int .i64 0, .int .i64 0], []⟩ 8 (by kernel_rfl) (by kernel_rfl) (by kernel_rfl) (by kernel_rfl)) ?_
  intro W base args ds gs before hval0 hW _ _
  have hval : ∀ (j : Nat) t v, Try.f9.params[j]? = some t → args[j]? = some v → Value.okWide Try.prog W .any base t v := hval0
  have hW' := hW
  obtain ⟨p, q, hA0, hV, rfl, _, _⟩ := hW
  have hA : DataW.TrodAll enc Try.prog W 0 (fun _ => true) true Try.f9.params.toList args.toList ds p := hA0
  rw [Try.params9] at hA hval
  obtain ⟨v0, v1, v2, v3, d0, d1, d2, d3, p0, p1, p2, p3, rfl, rfl, rfl, h0, h1, h2, h3⟩ := trodAll_four hA
  obtain ⟨rfl, rfl⟩ := trodVars_none hV
  obtain ⟨a0, n0, c0, l, rfl, h0', hok⟩ := open_facts (hval 0 22 v0 rfl rfl) h0
  obtain ⟨r, rfl, hokr⟩ := open_read (hval 1 54 v1 rfl rfl) h1
  obtain ⟨x2, rfl, rfl, rfl, _⟩ := open_int Try.underlying3 (hval 2 3 v2 rfl rfl) h2
  obtain ⟨x3, rfl, rfl, rfl, _⟩ := open_int Try.underlying3 (hval 3 3 v3 rfl rfl) h3
  refine (lawRead_any a0 n0 c0 l r x2 x3 W h0' hok).mono fun e W' ⟨he, hb⟩ => ?_
  subst he
  exact ⟨_, rfl, law_post hW' rfl rfl (by kernel_rfl) rfl hb⟩
set_option maxHeartbeats 2000000 in
theorem closed_Read : joinedFacts Try.prog 9 Try.f9 Rows.factsReadSpec Rows.factsReadRow = true := by
  unfold joinedFacts
  refine bt (bt (bt (bt (bt (bt (bt (bt (bt (bt (bt (bt (bt (bt (bt (bt (bt (bt (bt (bt (bt (bt (bt (bt (bt (bt (bt (bt (bt (bt (bt ?a0 ?a1) ?a2) ?a3) ?a4) ?a5) ?a6) ?a7) ?a8) ?a9) ?a10) ?a11) ?a12) ?a13) ?a14) ?a15) ?a16) ?a17) ?a18) ?a19) ?a20) ?a21) ?a22) ?a23) ?a24) ?a25) ?a26) ?a27) ?a28) ?a29) ?a30) ?a31
  case a25 => exact prog_enter
  case a26 => exact prog_lifts
  case a27 => exact prog_make
  all_goals as_aux_lemma => kernel_rfl
theorem factsRead_holds : Rows.FactsReadSaid :=
  OpenClaim.holds_of_wide 9 Try.f9 rfl rfl rfl rfl rfl rfl rfl ⟨rfl, rfl, rfl, rfl, rfl⟩ rfl rfl rfl rfl rfl (by kernel_rfl) Try.func9 closed_Read
    (of_decide_eq_true (by kernel_rfl)) (by unfold Func.isWrapper; rw [if_neg (of_decide_eq_false (by kernel_rfl))]; exact ⟨rfl, rfl⟩)
    (fun os started H enc _ => lifted_Read os started H enc)
#print axioms factsRead_holds
end Go.Proofs.Ytfhekhjojdhmhaa
