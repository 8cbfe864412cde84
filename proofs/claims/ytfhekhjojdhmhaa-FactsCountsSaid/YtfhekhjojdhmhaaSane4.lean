/- The chapter's examples: law04.sane answers true. -/
import Derived.Test.YtfhekhjojdhmhaaSanM4
import Derived.Deep.RegionHeld3
import Derived.Deep.RegionLaw
import Derived.WalkKit
import Derived.WalkSpells
import Derived.WalkLawsBesides
import Derived.Deep.LoopGhost
import Derived.Deep.QuietTactic
import Derived.BigQuiet
import Derived.StillTailTactics
import Derived.Lib.Hide
import Derived.Outline
import Derived.Lib.QuietBelow
namespace Go.Proofs.Ytfhekhjojdhmhaa
open Go.RowKit

theorem ex_ok : ∀ f ∈ [ex1, ex2], okK f.key := by
  intro f hf
  simp at hf
  rcases hf with rfl | rfl <;> exact ⟨by decide, by decide, by decide⟩
theorem keep8S {w0 w w' : World} {b o : Nat} {f : Fact} (h : At8 w b o f ∧ Below w0.heap.size w0 w) (hb : Below w.heap.size w w') : At8 w' b o f ∧ Below w0.heap.size w0 w' := ⟨h.1.below hb, h.2.on hb⟩
theorem keep3S {w0 w w' : World} {b : Nat} {k : Key} (h : K3 w b k ∧ Below w0.heap.size w0 w) (hb : Below w.heap.size w w') : K3 w' b k ∧ Below w0.heap.size w0 w' := ⟨h.1.below hb, h.2.on hb⟩
theorem same_true (a0 a1 : Option Addr) (n0 c0 n1 c1 : Nat) (l : List Fact) (w : World) (h0 : SL encF 8 w a0 n0 c0 l) (h1 : SL encF 8 w a1 n1 c1 l) :
    Calls Try.prog 17 #[.slice a0 n0 c0, .slice a1 n1 c1] w fun e w' => e = .returned (.bool true) ∧ Below w.heap.size w w' := by
  refine (same_any a0 a1 n0 c0 n1 c1 l l w h0 h1).mono ?_
  rintro e w' ⟨rfl, q, rfl⟩
  exact ⟨by simp, Below.drewN0 _ _⟩
theorem alk_none (a : Option Addr) (w : World) (h : SL encF 8 w a 2 2 [ex1, ex2]) : Calls Try.prog 26 #[.slice a 2 2, .slice none 0 0, .int .i64 1, .int .i64 2] w fun e w' => e = .returned (.bool true) ∧ Below w.heap.size w w' := by
  refine (alike_any a none 2 2 0 0 [ex1, ex2] [] 1 2 w h (SL.nil _ _ _)).mono ?_
  rintro e w' ⟨rfl, hb⟩
  exact ⟨by rw [san_alk.1], hb⟩
theorem alk_one (a : Option Addr) (w : World) (h : SL encF 8 w a 2 2 [ex1, ex2]) : Calls Try.prog 26 #[.slice a 2 2, .slice (some ⟨w.heap.size, 0, none⟩) 1 1, .int .i64 15, .int .i64 20] (w.alloc (.cells #[.int .i64 3, .int .i64 4, .int .i64 9, .int .i64 0, .int .i64 9] 54)) fun e w' => e = .returned (.bool false) ∧ Below (w.alloc (.cells #[.int .i64 3, .int .i64 4, .int .i64 9, .int .i64 0, .int .i64 9] 54)).heap.size (w.alloc (.cells #[.int .i64 3, .int .i64 4, .int .i64 9, .int .i64 0, .int .i64 9] 54)) w' := by
  refine (alike_any a (some ⟨w.heap.size, 0, none⟩) 2 2 1 1 [ex1, ex2] [⟨3, 4, 9, 0, 9⟩] 15 20 _ (h.below ((Below.refl _ _).alloc (Nat.le_refl _) _)) (SL.box encR_len [⟨3, 4, 9, 0, 9⟩] (Box.new _ _ _) rfl rfl (by decide))).mono ?_
  rintro e w' ⟨rfl, hb⟩
  exact ⟨by rw [san_alk.2], hb⟩
theorem pts_three (a : Option Addr) (w : World) (h : SL encF 8 w a 2 2 [ex1, ex2]) : Calls Try.prog 21 #[.slice a 2 2, keyV exk, .int .i64 0, .int .i64 9, .int .i64 20] w fun e w' => ∃ pa pc, e = .returned (.slice pa 3 pc) ∧ Below w.heap.size w w' := by
  refine (points_any a 2 2 [ex1, ex2] exk 0 9 20 w h).mono ?_
  rintro e w' ⟨v, rfl, hO, hb⟩
  obtain ⟨pa, pc, rfl, _⟩ := hO.sl encP_len
  exact ⟨pa, pc, by rw [san_pts.2], hb⟩
theorem upto_one (a : Option Addr) (w : World) (h : SL encF 8 w a 2 2 [ex1, ex2]) : Calls Try.prog 28 #[.slice a 2 2, .int .i64 19] w fun e w' => ∃ ua uc, e = .returned (.slice ua 1 uc) ∧ SL encF 8 w' ua 1 uc [ex1] ∧ Below w.heap.size w w' := by
  refine (upto_any a 2 2 [ex1, ex2] 19 w h (by decide)).mono ?_
  rintro e w' ⟨v, rfl, hO, hb⟩
  rw [san_upto] at hO
  obtain ⟨ua, uc, rfl, hS⟩ := hO.sl encF_len
  exact ⟨ua, uc, rfl, hS, hb⟩
theorem sd_lit {w : World} {ca : Option Addr} {nu cc : Nat} (h : DL w ca nu cc [(exk, [(3, 4)])]) : Calls Try.prog 23 #[.slice ca nu cc, .slice (some ⟨w.heap.size + 1, 0, none⟩) 1 1] ((w.alloc (.cells #[.int .i64 3, .int .i64 4] 26)).alloc (.cells #[.int .i64 3, .int .i64 4, .int .i64 9, .slice (some ⟨w.heap.size, 0, none⟩) 1 1] 57)) fun e w' => e = .returned (.bool true) ∧ Below ((w.alloc (.cells #[.int .i64 3, .int .i64 4] 26)).alloc (.cells #[.int .i64 3, .int .i64 4, .int .i64 9, .slice (some ⟨w.heap.size, 0, none⟩) 1 1] 57)).heap.size ((w.alloc (.cells #[.int .i64 3, .int .i64 4] 26)).alloc (.cells #[.int .i64 3, .int .i64 4, .int .i64 9, .slice (some ⟨w.heap.size, 0, none⟩) 1 1] 57)) w' := by
  have hb1 : Below w.heap.size w (w.alloc (.cells #[.int .i64 3, .int .i64 4] 26)) := (Below.refl _ _).alloc (Nat.le_refl _) _
  have hb2 : Below (w.alloc (.cells #[.int .i64 3, .int .i64 4] 26)).heap.size (w.alloc (.cells #[.int .i64 3, .int .i64 4] 26)) ((w.alloc (.cells #[.int .i64 3, .int .i64 4] 26)).alloc (.cells #[.int .i64 3, .int .i64 4, .int .i64 9, .slice (some ⟨w.heap.size, 0, none⟩) 1 1] 57)) := (Below.refl _ _).alloc (Nat.le_refl _) _
  have bx := Box.new (w.alloc (.cells #[.int .i64 3, .int .i64 4] 26)) #[.int .i64 3, .int .i64 4, .int .i64 9, .slice (some ⟨w.heap.size, 0, none⟩) 1 1] 57
  rw [World.size_alloc] at bx
  have hS : SL encP 2 (w.alloc (.cells #[.int .i64 3, .int .i64 4] 26)) (some ⟨w.heap.size, 0, none⟩) 1 1 [((3 : Int), (4 : Int))] := SL.box encP_len [(3, 4)] (Box.new w _ _) rfl rfl (by decide)
  have hD : DL ((w.alloc (.cells #[.int .i64 3, .int .i64 4] 26)).alloc (.cells #[.int .i64 3, .int .i64 4, .int .i64 9, .slice (some ⟨w.heap.size, 0, none⟩) 1 1] 57)) (some ⟨w.heap.size + 1, 0, none⟩) 1 1 [(exk, [(3, 4)])] :=
    ⟨[(exk, .slice (some ⟨w.heap.size, 0, none⟩) 1 1)], SL.box encD_len _ bx rfl rfl (by decide), DEl.snoc (us := []) (ds := []) (fun i u d h => by simp at h) rfl (hS.below hb2)⟩
  refine (sameDiffers_any ca _ nu cc 1 1 _ _ _ ((h.below hb1).below hb2) hD).mono ?_
  rintro e w' ⟨rfl, q, rfl⟩
  exact ⟨by simp, Below.drewN0 _ _⟩
theorem z2 {w0 W' : World} {f : Nat} {vs : Array Value} {v : Value} (hW : Below w0.heap.size w0 W') (h : Calls Try.prog f vs W' fun e w' => e = .returned v ∧ Below W'.heap.size W' w') : Calls Try.prog f vs W' fun e w' => e = .returned v ∧ Below W'.heap.size W' w' ∧ Below w0.heap.size w0 w' :=
  h.mono fun _e _w' h => ⟨h.1, h.2, hW.on h.2⟩
theorem z2a {w0 W' : World} {o : Obj} {f : Nat} {vs : Array Value} {v : Value} (hW : Below w0.heap.size w0 W') (h : Calls Try.prog f vs (W'.alloc o) fun e w' => e = .returned v ∧ Below (W'.alloc o).heap.size (W'.alloc o) w') : Calls Try.prog f vs (W'.alloc o) fun e w' => e = .returned v ∧ Below (W'.alloc o).heap.size (W'.alloc o) w' ∧ Below w0.heap.size w0 w' :=
  h.mono fun _e _w' h => ⟨h.1, h.2, (hW.on ((Below.refl _ _).alloc (Nat.le_refl _) _)).on h.2⟩
theorem z3 {w0 W' : World} {o o' : Obj} {f : Nat} {vs : Array Value} {v : Value} (hW : Below w0.heap.size w0 W') (h : Calls Try.prog f vs ((W'.alloc o).alloc o') fun e w' => e = .returned v ∧ Below ((W'.alloc o).alloc o').heap.size ((W'.alloc o).alloc o') w') : Calls Try.prog f vs ((W'.alloc o).alloc o') fun e w' => e = .returned v ∧ Below ((W'.alloc o).alloc o').heap.size ((W'.alloc o).alloc o') w' ∧ Below w0.heap.size w0 w' :=
  h.mono fun _e _w' h => ⟨h.1, h.2, ((hW.on ((Below.refl _ _).alloc (Nat.le_refl _) _)).on ((Below.refl _ _).alloc (Nat.le_refl _) _)).on h.2⟩
theorem zp {w0 W' : World} {f n : Nat} {vs : Array Value} (hW : Below w0.heap.size w0 W') (h : Calls Try.prog f vs W' fun e w' => ∃ pa pc, e = .returned (.slice pa n pc) ∧ Below W'.heap.size W' w') : Calls Try.prog f vs W' fun e w' => ∃ pa pc, e = .returned (.slice pa n pc) ∧ Below W'.heap.size W' w' ∧ Below w0.heap.size w0 w' :=
  h.mono fun _e _w' ⟨pa, pc, h1, h2⟩ => ⟨pa, pc, h1, h2, hW.on h2⟩
theorem zu {w0 W' : World} {f n : Nat} {vs : Array Value} {l : List Fact} (hW : Below w0.heap.size w0 W') (h : Calls Try.prog f vs W' fun e w' => ∃ ua uc, e = .returned (.slice ua n uc) ∧ SL encF 8 w' ua n uc l ∧ Below W'.heap.size W' w') : Calls Try.prog f vs W' fun e w' => ∃ ua uc, e = .returned (.slice ua n uc) ∧ SL encF 8 w' ua n uc l ∧ Below W'.heap.size W' w' ∧ Below w0.heap.size w0 w' :=
  h.mono fun _e _w' ⟨pa, pc, h1, h2, h3⟩ => ⟨pa, pc, h1, h2, h3, hW.on h3⟩
set_option maxRecDepth 40000 in
set_option maxHeartbeats 8000000 in
theorem sane04_any (W : World) : Calls Try.prog 11 #[] W fun e w' => e = .returned (.bool true) ∧ Below W.heap.size W w' := by
  have HAT := Lib.hid san_at
  have HAD := Lib.hid san_add
  go_enter Try.func11, Try.ntmps11
  go_wp2_with fail
  refine (grade_any _ _ _ _ _ _).mono ?_
  rintro e w1 ⟨rfl, hB1⟩
  go_wp2_with fail
  refine (grade_any _ _ _ _ _ _).mono ?_
  rintro e w2 ⟨rfl, hB2⟩
  replace hB1 := hB1.on hB2
  clear hB2
  go_wp2_with fail
  obtain ⟨b, hb⟩ : ∃ b, w2.heap.size = b := ⟨_, rfl⟩
  have hbx := (Box.new w2 #[.int .i64 3, .int .i64 4, .int .i64 9, .int .i64 7, .int .i64 2, .int .i64 6, .int .i64 10, .int .i64 0, .int .i64 3, .int .i64 4, .int .i64 9, .int .i64 (-1), .int .i64 3, .int .i64 4, .int .i64 20, .int .i64 0] 28).alloc (.cells #[.int .i64 3, .int .i64 4, .int .i64 9] 24)
  have hkx := Box.new (w2.alloc (.cells #[.int .i64 3, .int .i64 4, .int .i64 9, .int .i64 7, .int .i64 2, .int .i64 6, .int .i64 10, .int .i64 0, .int .i64 3, .int .i64 4, .int .i64 9, .int .i64 (-1), .int .i64 3, .int .i64 4, .int .i64 20, .int .i64 0] 28)) #[.int .i64 3, .int .i64 4, .int .i64 9] 24
  have hal : Below w2.heap.size w2 ((w2.alloc (.cells #[.int .i64 3, .int .i64 4, .int .i64 9, .int .i64 7, .int .i64 2, .int .i64 6, .int .i64 10, .int .i64 0, .int .i64 3, .int .i64 4, .int .i64 9, .int .i64 (-1), .int .i64 3, .int .i64 4, .int .i64 20, .int .i64 0] 28)).alloc (.cells #[.int .i64 3, .int .i64 4, .int .i64 9] 24)) := ((Below.refl _ _).alloc (Nat.le_refl _) _).alloc (by simp) _
  obtain ⟨w3, hw3⟩ : ∃ w3, ((w2.alloc (.cells #[.int .i64 3, .int .i64 4, .int .i64 9, .int .i64 7, .int .i64 2, .int .i64 6, .int .i64 10, .int .i64 0, .int .i64 3, .int .i64 4, .int .i64 9, .int .i64 (-1), .int .i64 3, .int .i64 4, .int .i64 20, .int .i64 0] 28)).alloc (.cells #[.int .i64 3, .int .i64 4, .int .i64 9] 24)) = w3 := ⟨_, rfl⟩
  rw [World.size_alloc] at hkx
  rw [hw3] at hbx hkx hal ⊢
  rw [hb] at hbx hkx ⊢
  have hB3 : Below W.heap.size W w3 := hB1.on hal
  have HL : SL encF 8 w3 (some ⟨b, 0, none⟩) 2 2 [ex1, ex2] := SL.box encF_len _ hbx rfl rfl (by decide)
  have HK : K3 w3 (b + 1) exk := Box3 hkx
  clear hw3 hbx hkx hal hB1 hb
  -- v, ok
  have hc := at_any (some ⟨b, 0, none⟩) 2 2 [ex1, ex2] exk 3 15 w3 HL
  simp only [HAT.out.1.1, HAT.out.1.2] at hc
  refine hc.mono ?_
  rintro e w4 ⟨rfl, hA⟩
  replace hB3 := hB3.on hA
  replace HL := HL.below hA
  replace HK := HK.below hA
  clear hA hc
  -- gone
  obtain ⟨q0, q1, q2⟩ := id HK
  go_wp2_with fail
  have hc := at_any (some ⟨b, 0, none⟩) 2 2 [ex1, ex2] exk 3 20 w4 HL
  simp only [HAT.out.2.1] at hc
  refine hc.mono ?_
  rintro e w5 ⟨rfl, hA⟩
  replace hB3 := hB3.on hA
  replace HL := HL.below hA
  replace HK := HK.below hA
  clear hA hc
  clear q0 q1 q2
  obtain ⟨q0, q1, q2⟩ := id HK
  go_wp2_with fail
  have hc := at_any (some ⟨b, 0, none⟩) 2 2 [ex1, ex2] exk 2 20 w5 HL
  simp only [HAT.out.2.2.1.1, HAT.out.2.2.1.2] at hc
  refine hc.mono ?_
  rintro e w6 ⟨rfl, hA⟩
  replace hB3 := hB3.on hA
  replace HL := HL.below hA
  replace HK := HK.below hA
  clear hA hc
  clear q0 q1 q2
  obtain ⟨q0, q1, q2⟩ := id HK
  go_wp2_with fail
  have hc := at_any none 0 0 [] exk 0 0 w6 (SL.nil _ _ _)
  simp only [HAT.out.2.2.2] at hc
  refine hc.mono ?_
  rintro e w7 ⟨rfl, hA⟩
  replace hB3 := hB3.on hA
  replace HL := HL.below hA
  replace HK := HK.below hA
  clear hA q0 q1 q2
  obtain ⟨q0, q1, q2⟩ := id HK
  clear hc
  go_wp2_with fail
  -- x, e
  have hA0 : w7.cell? ⟨b, 8, none⟩ = some (.int .i64 3) ∧ w7.cell? ⟨b, 9, none⟩ = some (.int .i64 4) ∧ w7.cell? ⟨b, 10, none⟩ = some (.int .i64 9) ∧ w7.cell? ⟨b, 11, none⟩ = some (.int .i64 (-1)) ∧ w7.cell? ⟨b, 12, none⟩ = some (.int .i64 3) ∧ w7.cell? ⟨b, 13, none⟩ = some (.int .i64 4) ∧ w7.cell? ⟨b, 14, none⟩ = some (.int .i64 20) ∧ w7.cell? ⟨b, 15, none⟩ = some (.int .i64 0) := HL.fact (i := 1) rfl
  have HP : SL encF 8 w7 (some ⟨b, 0, none⟩) 1 2 [ex1] := HL.part (i := 0) (m := 1) (d := 2) (by omega) (by omega) (by omega)
  go_region_held3 (fun w' => (w'.cell? ⟨b, 8, none⟩ = some (.int .i64 3) ∧ w'.cell? ⟨b, 9, none⟩ = some (.int .i64 4) ∧ w'.cell? ⟨b, 10, none⟩ = some (.int .i64 9) ∧ w'.cell? ⟨b, 11, none⟩ = some (.int .i64 (-1)) ∧ w'.cell? ⟨b, 12, none⟩ = some (.int .i64 3) ∧ w'.cell? ⟨b, 13, none⟩ = some (.int .i64 4) ∧ w'.cell? ⟨b, 14, none⟩ = some (.int .i64 20) ∧ w'.cell? ⟨b, 15, none⟩ = some (.int .i64 0)) ∧ Below w7.heap.size w7 w')
    (first | exact ⟨hA0, (Below.refl _ _).drew⟩ | exact keep8S (b := b) (o := 8) (f := ex2) (by assumption) (by assumption))
    (first | (go_at_call 13; refine (add_any (some ⟨b, 0, none⟩) 1 2 [ex1] ex2 _ (HP.below (by go_split_ands; assumption)) (by decide)).mono ?_; rintro e w8 ⟨xv, rfl, hO, hA⟩))
  replace hA := (‹(_ ∧ _) ∧ Below w7.heap.size w7 w8›).2
  rw [HAD.out.1]
  rw [HAD.out.2.1] at hO
  obtain ⟨xa, xc, rfl, HX⟩ := hO.sl encF_len
  replace hB3 := hB3.on hA
  replace HL := HL.below hA
  replace HK := HK.below hA
  clear hA q0 q1 q2
  obtain ⟨q0, q1, q2⟩ := id HK
  clear hO HP hA0
  go_wp2_with fail
  -- f
  refine (grade_any _ _ _ _ _ _).mono ?_
  rintro e w9 ⟨rfl, hA⟩
  replace HX := HX.below hA
  replace hB3 := hB3.on hA
  replace HL := HL.below hA
  replace HK := HK.below hA
  clear hA q0 q1 q2
  obtain ⟨q0, q1, q2⟩ := id HK
  go_wp2_with fail
  have hc := add_any (some ⟨b, 0, none⟩) 2 2 [ex1, ex2] ex3 w9 HL (by decide)
  refine hc.mono ?_
  rintro e w10 ⟨fv, rfl, _, hA⟩
  rw [HAD.out.2.2.1]
  replace HX := HX.below hA
  replace hB3 := hB3.on hA
  replace HL := HL.below hA
  replace HK := HK.below hA
  clear hA q0 q1 q2
  obtain ⟨q0, q1, q2⟩ := id HK
  clear hc
  go_wp2_with fail
  -- c
  have hc := changed_any (some ⟨b, 0, none⟩) 2 2 [ex1, ex2] 15 20 w10 HL (by decide) ex_ok
  refine hc.mono ?_
  rintro e w11 ⟨cv, us, rfl, hO, hD, hA⟩
  rw [san_chg] at hD
  obtain ⟨ca, cc, rfl, HCs⟩ := hO.sl encD_len
  have HC : DL w11 ca us.length cc [(exk, [(3, 4)])] := ⟨us, HCs, hD⟩
  replace HX := HX.below hA
  replace hB3 := hB3.on hA
  replace HL := HL.below hA
  replace HK := HK.below hA
  clear hA q0 q1 q2
  obtain ⟨q0, q1, q2⟩ := id HK
  clear hc hO hD HCs
  obtain ⟨nu, hnu⟩ : ∃ nu, us.length = nu := ⟨_, rfl⟩
  rw [hnu] at HC ⊢
  clear hnu
  go_wp2_with fail
  -- Check of a bad one
  have ha := (Below.refl w11.heap.size w11).alloc (Nat.le_refl _) (.cells #[.int .i64 ex0.kd, .int .i64 ex0.sb, .int .i64 ex0.ob, .int .i64 ex0.val, .int .i64 ex0.vf, .int .i64 ex0.vt, .int .i64 ex0.kn, .int .i64 ex0.no] 28)
  have hc := check_any (some ⟨w11.heap.size, 0, none⟩) 1 1 [ex0] _ (SL.box encF_len [ex0] (Box.new w11 #[.int .i64 ex0.kd, .int .i64 ex0.sb, .int .i64 ex0.ob, .int .i64 ex0.val, .int .i64 ex0.vf, .int .i64 ex0.vt, .int .i64 ex0.kn, .int .i64 ex0.no] 28) rfl rfl (by decide))
  rw [HAD.out.2.2.2.1] at hc
  refine hc.mono ?_
  rintro e w12 ⟨rfl, hA⟩
  replace hA := ha.on hA
  replace HX := HX.below hA
  replace HC := HC.below hA
  replace hB3 := hB3.on hA
  replace HL := HL.below hA
  replace HK := HK.below hA
  clear hA q0 q1 q2
  obtain ⟨q0, q1, q2⟩ := id HK
  clear hc ha
  go_wp2_with fail
  have hc := check_any (some ⟨b, 0, none⟩) 2 2 [ex1, ex2] _ HL
  rw [HAD.out.2.2.2.2] at hc
  refine hc.mono ?_
  rintro e w13 ⟨rfl, hA⟩
  replace HX := HX.below hA
  replace HC := HC.below hA
  replace hB3 := hB3.on hA
  replace HL := HL.below hA
  replace HK := HK.below hA
  clear hA q0 q1 q2
  obtain ⟨q0, q1, q2⟩ := id HK
  clear hc
  go_wp2_with fail
  have hc := points_any (some ⟨b, 0, none⟩) 2 2 [ex1, ex2] exk 5 5 20 _ HL
  rw [san_pts.1] at hc
  refine hc.mono ?_
  rintro e w14 ⟨pv, rfl, hO, hA⟩
  obtain ⟨pa, pc, rfl, _⟩ := hO.sl encP_len
  replace HX := HX.below hA
  replace HC := HC.below hA
  replace hB3 := hB3.on hA
  replace HL := HL.below hA
  replace HK := HK.below hA
  clear hA q0 q1 q2
  obtain ⟨q0, q1, q2⟩ := id HK
  clear hc hO q0 q1 q2
  go_wp2_with fail
  have HK0 : w14.cell? ⟨b + 1, 0, none⟩ = some (.int .i64 3) ∧ w14.cell? ⟨b + 1, 1, none⟩ = some (.int .i64 4) ∧ w14.cell? ⟨b + 1, 2, none⟩ = some (.int .i64 9) := HK
  have HS1 := Lib.hid (fun (W' : World) (hW : Below w14.heap.size w14 W') => z2 (hW) (same_true xa (some ⟨b, 0, none⟩) 2 xc 2 2 [ex1, ex2] W' (HX.below hW) (HL.below hW)))
  have HAK := Lib.hid (fun (W' : World) (hW : Below w14.heap.size w14 W') => z2 (hW) (alk_none (some ⟨b, 0, none⟩) W' (HL.below hW)))
  have HAL := Lib.hid (fun (W' : World) (hW : Below w14.heap.size w14 W') => z2a (hW) (alk_one (some ⟨b, 0, none⟩) W' (HL.below hW)))
  have HPT := Lib.hid (fun (W' : World) (hW : Below w14.heap.size w14 W') => zp (hW) (pts_three (some ⟨b, 0, none⟩) W' (HL.below hW)))
  have HUP := Lib.hid (fun (W' : World) (hW : Below w14.heap.size w14 W') => zu (hW) (upto_one (some ⟨b, 0, none⟩) W' (HL.below hW)))
  have HSD := Lib.hid (fun (W' : World) (hW : Below w14.heap.size w14 W') => z3 (hW) (sd_lit (w := W') (HC.below hW)))
  have HP : SL encF 8 w14 (some ⟨b, 0, none⟩) 1 2 [ex1] := HL.part (i := 0) (m := 1) (d := 2) (by omega) (by omega) (by omega)
  have HS2 := Lib.hid (fun (W' : World) (hW : Below w14.heap.size w14 W') (ua : Option Addr) (uc : Nat) (hu : SL encF 8 W' ua 1 uc [ex1]) => z2 (hW) (same_true ua (some ⟨b, 0, none⟩) 1 uc 1 2 [ex1] W' hu (HP.below hW)))
  clear HP HX HL HC HK HAT HAD
  go_region_held3 (fun w' => (w'.cell? ⟨b + 1, 0, none⟩ = some (.int .i64 3) ∧ w'.cell? ⟨b + 1, 1, none⟩ = some (.int .i64 4) ∧ w'.cell? ⟨b + 1, 2, none⟩ = some (.int .i64 9)) ∧ Below w14.heap.size w14 w')
    (first | exact ⟨HK0, (Below.refl _ _).drew⟩ | exact keep3S (b := b + 1) (k := exk) (by assumption) (by assumption) | exact keep3S (b := b + 1) (k := exk) (by assumption) ((Below.refl _ _).alloc (Nat.le_refl _) _))
    (first | (go_at_call 17; with_reducible show Calls _ _ #[_, .slice _ 2 2] _ _; refine (HS1.out _ (by first | assumption | (go_split_ands; assumption))).mono ?_; rintro e w' ⟨rfl, hA, hZ⟩) | (go_at_call 23; refine (HSD.out _ (by first | assumption | (go_split_ands; assumption))).mono ?_; rintro e w' ⟨rfl, hA, hZ⟩) | (go_at_call 26; with_reducible show Calls _ _ #[_, .slice none 0 0, _, _] _ _; refine (HAK.out _ (by first | assumption | (go_split_ands; assumption))).mono ?_; rintro e w' ⟨rfl, hA, hZ⟩) | (go_at_call 26; refine (HAL.out _ (by first | assumption | (go_split_ands; assumption))).mono ?_; rintro e w' ⟨rfl, hA, hZ⟩) | (go_at_call 21; refine (HPT.out _ (by first | assumption | (go_split_ands; assumption))).mono ?_; rintro e w' ⟨pa, pc, rfl, hA, hZ⟩) | (go_at_call 28; refine (HUP.out _ (by first | assumption | (go_split_ands; assumption))).mono ?_; rintro e w' ⟨ua, uc, rfl, hUS, hA, hZ⟩) | (go_at_call 17; refine (HS2.out _ (by first | assumption | (go_split_ands; assumption)) _ _ (by first | assumption | exact SL.below (by assumption) (by assumption))).mono ?_; rintro e w' ⟨rfl, hA, hZ⟩))
  go_wp2_with fail
  go_ret
  exact ⟨rfl, hB3.on hZ⟩
end Go.Proofs.Ytfhekhjojdhmhaa
