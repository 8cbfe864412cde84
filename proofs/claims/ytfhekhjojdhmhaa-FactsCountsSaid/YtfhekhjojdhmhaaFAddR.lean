/- Contract of ref.Add. -/
import Derived.Test.YtfhekhjojdhmhaaFAdd
import Derived.Test.YtfhekhjojdhmhaaApp2
import Derived.OwnWalk
import Derived.Deep.RegionHeld3
import Derived.Deep.RegionLaw
import Derived.WalkKit
import Derived.WalkSpells
import Derived.WalkLawsBesides
import Derived.Deep.LoopGhost
import Derived.Deep.QuietTactic
import Derived.BigQuiet
import Derived.StillTailTactics
import Derived.Lib.Hide
import Derived.Outline
import Derived.Lib.QuietBelow
namespace Go.Proofs.Ytfhekhjojdhmhaa
open Go.RowKit

theorem At8.grown {w w' : World} {b o : Nat} {f : Fact} {row : Option Nat} (h : At8 w b o f) (hg : w.grownBy w' row) (hne : row ≠ some b) : At8 w' b o f := by
  obtain ⟨h0, h1, h2, h3, h4, h5, h6, h7⟩ := h
  have l := World.block_lt_of_cell? w _ h0
  have k : ∀ i, w'.cell? ⟨b, i, none⟩ = w.cell? ⟨b, i, none⟩ := fun i => World.cell?_of_block (w := w) (hg.block b l (Ne.symm hne))
  exact ⟨(k _).trans h0, (k _).trans h1, (k _).trans h2, (k _).trans h3, (k _).trans h4, (k _).trans h5, (k _).trans h6, (k _).trans h7⟩
theorem flat_one (l : List Fact) : ∀ u ∈ l.flatMap encF, u.oneCell' = true := by
  intro u hu
  rw [List.mem_flatMap] at hu
  obtain ⟨x, _, h⟩ := hu
  exact encF_one x u h
theorem news_keep {wA X w5 : World} {row : Option Nat} (f : Fact) (hX : Below (wA.alloc (.cells #[.int .i64 f.kd, .int .i64 f.sb, .int .i64 f.ob, .int .i64 f.val, .int .i64 f.vf, .int .i64 f.vt, .int .i64 f.kn, .int .i64 f.no] 28)).heap.size (wA.alloc (.cells #[.int .i64 f.kd, .int .i64 f.sb, .int .i64 f.ob, .int .i64 f.val, .int .i64 f.vf, .int .i64 f.vt, .int .i64 f.kn, .int .i64 f.no] 28)) X) (hg : X.grownBy w5 row) (hne : row ≠ some wA.heap.size) :
    ∀ j u, (encF f)[j]? = some u → w5.cell? (Addr.add ⟨wA.heap.size, 0, none⟩ j) = some u := by
  intro j u hj
  have h1 := new8 wA f 28 j u hj
  rw [show (Addr.add ⟨wA.heap.size, 0, none⟩ j) = ⟨wA.heap.size, 0 + j, none⟩ by simp [Addr.add]; try omega] at h1 ⊢
  have hl : wA.heap.size < X.heap.size := by have := hX.size; simp at this; omega
  rw [World.cell?_of_block (w := X) (hg.block wA.heap.size hl (Ne.symm hne)), hX.cell (p := ⟨wA.heap.size, 0 + j, none⟩) (by simp)]
  exact h1

set_option maxRecDepth 10000 in
set_option maxHeartbeats 2000000 in
theorem radd_any (a0 : Option Addr) (n0 c0 : Nat) (l : List Fact) (f : Fact) (w : World) (h0 : SL encF 8 w a0 n0 c0 l) (hn : n0 ≤ 1000000) :
    Calls Try.prog 14 #[.slice a0 n0 c0, factV f] w (RetAdd w l f) := by
  have hm0 := h0.mx
  have hc0 := h0.cap
  have hl0 := Lib.hid h0.len
  have hal : Below w.heap.size w (w.alloc (.cells #[.int .i64 f.kd, .int .i64 f.sb, .int .i64 f.ob, .int .i64 f.val, .int .i64 f.vf, .int .i64 f.vt, .int .i64 f.kn, .int .i64 f.no] 28)) := (Below.refl _ _).alloc (Nat.le_refl _) _
  have hbx := Box.new w #[.int .i64 f.kd, .int .i64 f.sb, .int .i64 f.ob, .int .i64 f.val, .int .i64 f.vf, .int .i64 f.vt, .int .i64 f.kn, .int .i64 f.no] 28
  obtain ⟨w1, hw1⟩ : ∃ w1, w.alloc (.cells #[.int .i64 f.kd, .int .i64 f.sb, .int .i64 f.ob, .int .i64 f.val, .int .i64 f.vf, .int .i64 f.vt, .int .i64 f.kn, .int .i64 f.no] 28) = w1 := ⟨_, rfl⟩
  rw [hw1] at hal hbx
  have HW := Lib.hid hw1
  have HCK := Lib.hid (rcheck_any a0 n0 c0 l w1 (h0.below hal))
  by_cases hck : checkF l = 0
  · rw [hck] at HCK
    have HK := Lib.hid hck
    clear hck hw1
    have HFT := valid_any f
    cases hv : validB f
    · rw [hv] at HFT
      have HFT := Lib.hid HFT
      have HV := Lib.hid hv
      clear hv
      go_enter Try.func14, Try.ntmps14
      go_wp2_with (first | (go_at_call 16; rw [HW.out]; refine HCK.out.mono ?_; rintro e w2 ⟨rfl, hB⟩; have d := (show At8 w1 w.heap.size 0 f from ⟨hbx.cell 0, hbx.cell 1, hbx.cell 2, hbx.cell 3, hbx.cell 4, hbx.cell 5, hbx.cell 6, hbx.cell 7⟩).below hB; obtain ⟨d0, d1, d2, d3, d4, d5, d6, d7⟩ := d) | (go_at_call 35; refine (HFT.out w2).mono ?_; rintro e w3 ⟨rfl, hB3⟩))
      (refine bodyPost_ret (v := .tuple #[.slice none 0 0, .int .i64 40]) (by simp [results, Try.results14, go_sem]) rfl ?_)
      exact ⟨_, by rw [addErr_bad HK.out HV.out], by rw [addL_err (addErr_bad HK.out HV.out) (by decide)]; exact OwnSL.nil _ _ _ _ _, (hal.on hB).on hB3⟩
    · rw [hv] at HFT
      have HFT := Lib.hid HFT
      have HV := Lib.hid hv
      clear hv
      have hW3 : ∀ w2 w3, Below w1.heap.size w1 w2 → Below w2.heap.size w2 w3 → (w3.cell? ⟨w.heap.size, 0, none⟩ = some (.int .i64 f.kd) ∧ w3.cell? ⟨w.heap.size, 1, none⟩ = some (.int .i64 f.sb) ∧ w3.cell? ⟨w.heap.size, 2, none⟩ = some (.int .i64 f.ob) ∧ w3.cell? ⟨w.heap.size, 3, none⟩ = some (.int .i64 f.val) ∧ w3.cell? ⟨w.heap.size, 4, none⟩ = some (.int .i64 f.vf) ∧ w3.cell? ⟨w.heap.size, 5, none⟩ = some (.int .i64 f.vt) ∧ w3.cell? ⟨w.heap.size, 6, none⟩ = some (.int .i64 f.kn) ∧ w3.cell? ⟨w.heap.size, 7, none⟩ = some (.int .i64 f.no)) := fun w2 w3 hB hB3 => (show At8 w1 w.heap.size 0 f from ⟨hbx.cell 0, hbx.cell 1, hbx.cell 2, hbx.cell 3, hbx.cell 4, hbx.cell 5, hbx.cell 6, hbx.cell 7⟩).below (hB.on hB3)
      have HW3 := Lib.hid hW3
      clear hW3
      obtain ⟨i28, hi28, hz280, hz281, hz282⟩ := info8
      by_cases hp : 0 < n0
      · obtain ⟨b0, o0, rfl, hb0⟩ := h0.at' hp
        obtain ⟨x, hx⟩ := h0.get (i := n0 - 1) (by omega)
        have HX := Lib.hid hx
        have hw1 : IntKind.i64.wrap ((n0 : Int) - 1) = (n0 : Int) - 1 := by rw [IntKind.wrap_i64]; omega
        have t5 : (0 : Int) ≤ (n0 : Int) - 1 := by omega
        have t6 : (n0 : Int) - 1 < n0 := by omega
        have t7 : ((n0 : Int) - 1).toNat = n0 - 1 := by omega
        have t8 : (0 : Int) < (n0 : Int) := by omega
        have t10 : (1 : Int) ≤ (n0 : Int) := by omega
        have HBE := before_any x f
        cases hbf : befB x f
        · rw [hbf] at HBE
          have HBE := Lib.hid HBE
          have HBF := Lib.hid hbf
          clear hbf
          go_enter Try.func14, Try.ntmps14
          go_wp2_with (first | (go_at_call 16; rw [HW.out]; refine HCK.out.mono ?_; rintro e w2 ⟨rfl, hB⟩; have d := (show At8 w1 w.heap.size 0 f from ⟨hbx.cell 0, hbx.cell 1, hbx.cell 2, hbx.cell 3, hbx.cell 4, hbx.cell 5, hbx.cell 6, hbx.cell 7⟩).below hB; obtain ⟨d0, d1, d2, d3, d4, d5, d6, d7⟩ := d) | (go_at_call 35; refine (HFT.out w2).mono ?_; rintro e w3 ⟨rfl, hB3⟩))
          clear d0 d1 d2 d3 d4 d5 d6 d7
          have hA1 := ((h0.below hal).below hB |>.below hB3).fact hx
          have hA2 := HW3.out _ _ hB hB3
          clear hx
          go_region_held3 (fun w' => (w'.cell? ⟨b0, o0 + (n0 - 1) * 8, none⟩ = some (.int .i64 x.kd) ∧ w'.cell? ⟨b0, o0 + (n0 - 1) * 8 + 1, none⟩ = some (.int .i64 x.sb) ∧ w'.cell? ⟨b0, o0 + (n0 - 1) * 8 + 2, none⟩ = some (.int .i64 x.ob) ∧ w'.cell? ⟨b0, o0 + (n0 - 1) * 8 + 3, none⟩ = some (.int .i64 x.val) ∧ w'.cell? ⟨b0, o0 + (n0 - 1) * 8 + 4, none⟩ = some (.int .i64 x.vf) ∧ w'.cell? ⟨b0, o0 + (n0 - 1) * 8 + 5, none⟩ = some (.int .i64 x.vt) ∧ w'.cell? ⟨b0, o0 + (n0 - 1) * 8 + 6, none⟩ = some (.int .i64 x.kn) ∧ w'.cell? ⟨b0, o0 + (n0 - 1) * 8 + 7, none⟩ = some (.int .i64 x.no)) ∧ (w'.cell? ⟨w.heap.size, 0, none⟩ = some (.int .i64 f.kd) ∧ w'.cell? ⟨w.heap.size, 1, none⟩ = some (.int .i64 f.sb) ∧ w'.cell? ⟨w.heap.size, 2, none⟩ = some (.int .i64 f.ob) ∧ w'.cell? ⟨w.heap.size, 3, none⟩ = some (.int .i64 f.val) ∧ w'.cell? ⟨w.heap.size, 4, none⟩ = some (.int .i64 f.vf) ∧ w'.cell? ⟨w.heap.size, 5, none⟩ = some (.int .i64 f.vt) ∧ w'.cell? ⟨w.heap.size, 6, none⟩ = some (.int .i64 f.kn) ∧ w'.cell? ⟨w.heap.size, 7, none⟩ = some (.int .i64 f.no)) ∧ Below w3.heap.size w3 w')
            (first | exact ⟨hA1, hA2, (Below.refl _ _).drew⟩ | exact keep2F (o2 := 0) (by assumption) (by assumption))
            (first | (go_at_call 30; refine (HBE.out _).mono ?_; rintro e w' ⟨rfl, hb⟩))
          have hBr : Below w.heap.size w w' := (((hal.on hB).on hB3).on (Below.refl _ _).drew).on hb
          go_wp2_with fail
          (refine bodyPost_ret (v := .tuple #[.slice none 0 0, .int .i64 41]) (by simp [results, Try.results14, go_sem]) rfl ?_)
          exact ⟨_, by rw [addErr_ord HK.out HV.out (by rw [hl0.out]; exact HX.out) HBF.out], by rw [addL_err (addErr_ord HK.out HV.out (by rw [hl0.out]; exact HX.out) HBF.out) (by decide)]; exact OwnSL.nil _ _ _ _ _, hBr⟩
        · rw [hbf] at HBE
          have HBE := Lib.hid HBE
          have HBF := Lib.hid hbf
          clear hbf
          go_enter Try.func14, Try.ntmps14
          go_wp2_with (first | (go_at_call 16; rw [HW.out]; refine HCK.out.mono ?_; rintro e w2 ⟨rfl, hB⟩; have d := (show At8 w1 w.heap.size 0 f from ⟨hbx.cell 0, hbx.cell 1, hbx.cell 2, hbx.cell 3, hbx.cell 4, hbx.cell 5, hbx.cell 6, hbx.cell 7⟩).below hB; obtain ⟨d0, d1, d2, d3, d4, d5, d6, d7⟩ := d) | (go_at_call 35; refine (HFT.out w2).mono ?_; rintro e w3 ⟨rfl, hB3⟩))
          clear d0 d1 d2 d3 d4 d5 d6 d7
          have hA1 := ((h0.below hal).below hB |>.below hB3).fact hx
          have hA2 := HW3.out _ _ hB hB3
          clear hx
          go_region_held3 (fun w' => (w'.cell? ⟨b0, o0 + (n0 - 1) * 8, none⟩ = some (.int .i64 x.kd) ∧ w'.cell? ⟨b0, o0 + (n0 - 1) * 8 + 1, none⟩ = some (.int .i64 x.sb) ∧ w'.cell? ⟨b0, o0 + (n0 - 1) * 8 + 2, none⟩ = some (.int .i64 x.ob) ∧ w'.cell? ⟨b0, o0 + (n0 - 1) * 8 + 3, none⟩ = some (.int .i64 x.val) ∧ w'.cell? ⟨b0, o0 + (n0 - 1) * 8 + 4, none⟩ = some (.int .i64 x.vf) ∧ w'.cell? ⟨b0, o0 + (n0 - 1) * 8 + 5, none⟩ = some (.int .i64 x.vt) ∧ w'.cell? ⟨b0, o0 + (n0 - 1) * 8 + 6, none⟩ = some (.int .i64 x.kn) ∧ w'.cell? ⟨b0, o0 + (n0 - 1) * 8 + 7, none⟩ = some (.int .i64 x.no)) ∧ (w'.cell? ⟨w.heap.size, 0, none⟩ = some (.int .i64 f.kd) ∧ w'.cell? ⟨w.heap.size, 1, none⟩ = some (.int .i64 f.sb) ∧ w'.cell? ⟨w.heap.size, 2, none⟩ = some (.int .i64 f.ob) ∧ w'.cell? ⟨w.heap.size, 3, none⟩ = some (.int .i64 f.val) ∧ w'.cell? ⟨w.heap.size, 4, none⟩ = some (.int .i64 f.vf) ∧ w'.cell? ⟨w.heap.size, 5, none⟩ = some (.int .i64 f.vt) ∧ w'.cell? ⟨w.heap.size, 6, none⟩ = some (.int .i64 f.kn) ∧ w'.cell? ⟨w.heap.size, 7, none⟩ = some (.int .i64 f.no)) ∧ Below w3.heap.size w3 w')
            (first | exact ⟨hA1, hA2, (Below.refl _ _).drew⟩ | exact keep2F (o2 := 0) (by assumption) (by assumption))
            (first | (go_at_call 30; refine (HBE.out _).mono ?_; rintro e w' ⟨rfl, hb⟩))
          have hBr : Below w.heap.size w w' := (((hal.on hB).on hB3).on (Below.refl _ _).drew).on hb
          have hS := h0.below hBr
          have d := (show At8 w3 w.heap.size 0 f from hA2).below ((Below.refl _ _).drew.on hb)
          obtain ⟨d0, d1, d2, d3, d4, d5, d6, d7⟩ := d
          have hD8 : At8 w' w.heap.size 0 f := (show At8 w3 w.heap.size 0 f from hA2).below ((Below.refl _ _).drew.on hb)
          have hlw := World.block_lt_of_cell? w' _ d0
          simp only at hlw
          clear hb hA1 hA2 hB hB3 HCK HFT HW3
          simp only [Nat.zero_add] at d0 d1 d2 d3 d4 d5 d6 d7
          go_wp2_with fail
          go_region_law (go_loud (first | ((refine step_append_any rfl _ _ 22 rfl w.heap.size 28 i28 _ 8 64 Try.underlying22 hi28 hz280 hz281 hz282 rfl (by decide) (.slice (some ⟨w'.heap.size, 0, none⟩) 0 0) 0 [] ?hown rfl (some ⟨b0, o0, none⟩) n0 c0 (l.flatMap encF) rfl ?hnone ?hlen ?hcells (flat_one _) ?h63 ?hby ?hbase ?_; (case hown => (first | exact World.ownsRow_made w' #[] 0 hBr.size (by simp [maxLen]) rfl | exact (World.ownsRow_made w' #[] 0 hBr.size (by simp [maxLen]) rfl).alloc _ | (have := World.ownsRow_made (w'.alloc (.cells #[.int .i64 f.kd, .int .i64 f.sb, .int .i64 f.ob, .int .i64 f.val, .int .i64 f.vf, .int .i64 f.vt, .int .i64 f.kn, .int .i64 f.no] 28)) #[] 0 (e := 28) (size := 8) (base := w.heap.size) (by simp; have := hBr.size; omega) (by simp [maxLen]) rfl; simp only [World.size_alloc] at this; exact this))); (case hnone => (first | (intro h; cases h; done) | (intro h; rfl) | (intro h; omega))); (case hlen => rw [flat_len encF_len, hl0.out]); (case hcells => (intro ad had j u hj; exact (hS.below (by first | exact ((Below.refl _ _).alloc (Nat.le_refl _) _).drew | exact (((Below.refl _ _).alloc (Nat.le_refl _) _).alloc (by simp) _).drew | exact (((Below.refl _ _).alloc (Nat.le_refl _) _).drew.alloc (by simp) _))).flat encF_len (by decide) ad had (fun _ => trivial) j u hj)); (case h63 => (unfold maxLen; omega)); (case hby => omega); (case hbase => (have := hBr.size; simp; omega)); intro v' w5 hown' hgrow hfr; rw [Nat.zero_add, List.nil_append] at hown'; obtain ⟨g0, g1, g2, g3, g4, g5, g6, g7⟩ := (hD8.below (by first | exact ((Below.refl _ _).alloc (Nat.le_refl _) _).drew | exact (((Below.refl _ _).alloc (Nat.le_refl _) _).alloc (by simp) _).drew | exact (((Below.refl _ _).alloc (Nat.le_refl _) _).drew.alloc (by simp) _))).grown hgrow (by simp [Value.ownBlock]; omega); simp only [Nat.zero_add] at g0 g1 g2 g3 g4 g5 g6 g7)) | ((refine step_append_any rfl _ _ 22 rfl w.heap.size 28 i28 _ 8 64 Try.underlying22 hi28 hz280 hz281 hz282 rfl (by decide) (.slice (some ⟨w'.heap.size + 1, 0, none⟩) 0 0) 0 [] ?hown rfl (some ⟨b0, o0, none⟩) n0 c0 (l.flatMap encF) rfl ?hnone ?hlen ?hcells (flat_one _) ?h63 ?hby ?hbase ?_; (case hown => (first | exact World.ownsRow_made w' #[] 0 hBr.size (by simp [maxLen]) rfl | exact (World.ownsRow_made w' #[] 0 hBr.size (by simp [maxLen]) rfl).alloc _ | (have := World.ownsRow_made (w'.alloc (.cells #[.int .i64 f.kd, .int .i64 f.sb, .int .i64 f.ob, .int .i64 f.val, .int .i64 f.vf, .int .i64 f.vt, .int .i64 f.kn, .int .i64 f.no] 28)) #[] 0 (e := 28) (size := 8) (base := w.heap.size) (by simp; have := hBr.size; omega) (by simp [maxLen]) rfl; simp only [World.size_alloc] at this; exact this))); (case hnone => (first | (intro h; cases h; done) | (intro h; rfl) | (intro h; omega))); (case hlen => rw [flat_len encF_len, hl0.out]); (case hcells => (intro ad had j u hj; exact (hS.below (by first | exact ((Below.refl _ _).alloc (Nat.le_refl _) _).drew | exact (((Below.refl _ _).alloc (Nat.le_refl _) _).alloc (by simp) _).drew | exact (((Below.refl _ _).alloc (Nat.le_refl _) _).drew.alloc (by simp) _))).flat encF_len (by decide) ad had (fun _ => trivial) j u hj)); (case h63 => (unfold maxLen; omega)); (case hby => omega); (case hbase => (have := hBr.size; simp; omega)); intro v' w5 hown' hgrow hfr; rw [Nat.zero_add, List.nil_append] at hown'; obtain ⟨g0, g1, g2, g3, g4, g5, g6, g7⟩ := (hD8.below (by first | exact ((Below.refl _ _).alloc (Nat.le_refl _) _).drew | exact (((Below.refl _ _).alloc (Nat.le_refl _) _).alloc (by simp) _).drew | exact (((Below.refl _ _).alloc (Nat.le_refl _) _).drew.alloc (by simp) _))).grown hgrow (by simp [Value.ownBlock]; omega); simp only [Nat.zero_add] at g0 g1 g2 g3 g4 g5 g6 g7)) | ((refine step_append_own2 rfl _ _ 22 rfl w.heap.size 28 i28 _ 8 64 Try.underlying22 hi28 hz280 hz281 hz282 rfl (by decide) v' n0 (l.flatMap encF) ?hown rfl ⟨_, 0, none⟩ 1 1 (encF f) rfl rfl ?hnews (encF_one f) ?h63 ?hby ?hbase ?_; (case hown => (first | exact hown' | exact hown'.alloc _)); (case hnews => (first | exact new8 _ _ _ | exact new8d _ _ _ | exact news_keep f (((Below.refl _ _).alloc (Nat.le_refl _) _).drew) hgrow (by simp [Value.ownBlock]) | (have := news_keep (wA := w'.alloc (.cells #[] 28)) f ((Below.refl _ _).drew) hgrow (by simp [Value.ownBlock]); simpa using this))); (case h63 => (unfold maxLen; omega)); (case hby => omega); (case hbase => (have := hBr.size; have := hgrow.size; simp at *; omega)); intro v6 w6 hown6 hgrow6 hfr6))))
          all_goals
            go_wp2_with fail
            have hx5 : Below w.heap.size w w5 := (hBr.on (by first | exact ((Below.refl _ _).alloc (Nat.le_refl _) _).drew | exact (((Below.refl _ _).alloc (Nat.le_refl _) _).alloc (by simp) _).drew | exact (((Below.refl _ _).alloc (Nat.le_refl _) _).drew.alloc (by simp) _))).grown hgrow (by have := hBr.size; simp; omega) (by intro k e; simp [Value.ownBlock] at e; have := hBr.size; omega)
            have hx6 : Below w.heap.size w w6 := by first | exact hx5.grown hgrow6 hx5.size (fun k e => (hown'.lt k e).1) | exact (hx5.alloc hx5.size _).grown hgrow6 (by have := hx5.size; simp; omega) (fun k e => (hown'.lt k e).1)
            rw [← hl0.out] at hown6
            (refine bodyPost_ret (v := .tuple #[v6, .int .i64 0]) (by simp [results, Try.results14, go_sem]) rfl ?_)
            exact ⟨_, by rw [addErr_ok HK.out HV.out (by rw [hl0.out]; exact HX.out) HBF.out], by rw [addL_ok (addErr_ok HK.out HV.out (by rw [hl0.out]; exact HX.out) HBF.out)]; exact OwnSL.snoc hown6, hx6⟩
      · obtain rfl : n0 = 0 := by omega
        have hl00 : l = [] := List.eq_nil_of_length_eq_zero hl0.out
        subst hl00
        go_enter Try.func14, Try.ntmps14
        go_wp2_with (first | (go_quiet (fail)) | (go_at_call 16; rw [HW.out]; refine HCK.out.mono ?_; rintro e w2 ⟨rfl, hB⟩; have d := (show At8 w1 w.heap.size 0 f from ⟨hbx.cell 0, hbx.cell 1, hbx.cell 2, hbx.cell 3, hbx.cell 4, hbx.cell 5, hbx.cell 6, hbx.cell 7⟩).below hB; obtain ⟨d0, d1, d2, d3, d4, d5, d6, d7⟩ := d) | (go_at_call 35; refine (HFT.out w2).mono ?_; rintro e w3 ⟨rfl, hB3⟩; clear d0 d1 d2 d3 d4 d5 d6 d7; obtain ⟨d0, d1, d2, d3, d4, d5, d6, d7⟩ := HW3.out _ _ hB hB3))
        obtain ⟨w', hwq⟩ : ∃ wq, w3.drewN nq = wq := ⟨_, rfl⟩
        have hBq : Below w3.heap.size w3 w' := hwq ▸ Below.drewN0 _ _
        have hBr : Below w.heap.size w w' := ((hal.on hB).on hB3).on hBq
        have hS := h0.below hBr
        have hD8 : At8 w' w.heap.size 0 f := (show At8 w3 w.heap.size 0 f from ⟨d0, d1, d2, d3, d4, d5, d6, d7⟩).below hBq
        have hlw : w.heap.size < w'.heap.size := World.block_lt_of_cell? w' _ hD8.1
        rw [hwq]
        clear d0 d1 d2 d3 d4 d5 d6 d7 hwq hB hB3 HCK HFT HW3
        obtain ⟨d0, d1, d2, d3, d4, d5, d6, d7⟩ := hD8
        have hD8 : At8 w' w.heap.size 0 f := ⟨d0, d1, d2, d3, d4, d5, d6, d7⟩
        simp only [Nat.zero_add] at d0 d1 d2 d3 d4 d5 d6 d7
        go_region_law (go_loud (first | ((refine step_append_any rfl _ _ 22 rfl w.heap.size 28 i28 _ 8 64 Try.underlying22 hi28 hz280 hz281 hz282 rfl (by decide) (.slice (some ⟨w'.heap.size, 0, none⟩) 0 0) 0 [] ?hown rfl a0 0 c0 (([] : List Fact).flatMap encF) rfl ?hnone ?hlen ?hcells (flat_one _) ?h63 ?hby ?hbase ?_; (case hown => (first | exact World.ownsRow_made w' #[] 0 hBr.size (by simp [maxLen]) rfl | exact (World.ownsRow_made w' #[] 0 hBr.size (by simp [maxLen]) rfl).alloc _ | (have := World.ownsRow_made (w'.alloc (.cells #[.int .i64 f.kd, .int .i64 f.sb, .int .i64 f.ob, .int .i64 f.val, .int .i64 f.vf, .int .i64 f.vt, .int .i64 f.kn, .int .i64 f.no] 28)) #[] 0 (e := 28) (size := 8) (base := w.heap.size) (by simp; have := hBr.size; omega) (by simp [maxLen]) rfl; simp only [World.size_alloc] at this; exact this))); (case hnone => (first | (intro h; cases h; done) | (intro h; rfl) | (intro h; omega))); (case hlen => rw [flat_len encF_len, hl0.out]); (case hcells => (intro ad had j u hj; exact (hS.below (by first | exact ((Below.refl _ _).alloc (Nat.le_refl _) _).drew | exact (((Below.refl _ _).alloc (Nat.le_refl _) _).alloc (by simp) _).drew | exact (((Below.refl _ _).alloc (Nat.le_refl _) _).drew.alloc (by simp) _))).flat encF_len (by decide) ad had (fun _ => trivial) j u hj)); (case h63 => (unfold maxLen; omega)); (case hby => omega); (case hbase => (have := hBr.size; simp; omega)); intro v' w5 hown' hgrow hfr; rw [Nat.zero_add, List.nil_append] at hown'; obtain ⟨g0, g1, g2, g3, g4, g5, g6, g7⟩ := (hD8.below (by first | exact ((Below.refl _ _).alloc (Nat.le_refl _) _).drew | exact (((Below.refl _ _).alloc (Nat.le_refl _) _).alloc (by simp) _).drew | exact (((Below.refl _ _).alloc (Nat.le_refl _) _).drew.alloc (by simp) _))).grown hgrow (by simp [Value.ownBlock]; omega); simp only [Nat.zero_add] at g0 g1 g2 g3 g4 g5 g6 g7)) | ((refine step_append_any rfl _ _ 22 rfl w.heap.size 28 i28 _ 8 64 Try.underlying22 hi28 hz280 hz281 hz282 rfl (by decide) (.slice (some ⟨w'.heap.size + 1, 0, none⟩) 0 0) 0 [] ?hown rfl a0 0 c0 (([] : List Fact).flatMap encF) rfl ?hnone ?hlen ?hcells (flat_one _) ?h63 ?hby ?hbase ?_; (case hown => (first | exact World.ownsRow_made w' #[] 0 hBr.size (by simp [maxLen]) rfl | exact (World.ownsRow_made w' #[] 0 hBr.size (by simp [maxLen]) rfl).alloc _ | (have := World.ownsRow_made (w'.alloc (.cells #[.int .i64 f.kd, .int .i64 f.sb, .int .i64 f.ob, .int .i64 f.val, .int .i64 f.vf, .int .i64 f.vt, .int .i64 f.kn, .int .i64 f.no] 28)) #[] 0 (e := 28) (size := 8) (base := w.heap.size) (by simp; have := hBr.size; omega) (by simp [maxLen]) rfl; simp only [World.size_alloc] at this; exact this))); (case hnone => (first | (intro h; cases h; done) | (intro h; rfl) | (intro h; omega))); (case hlen => rw [flat_len encF_len, hl0.out]); (case hcells => (intro ad had j u hj; exact (hS.below (by first | exact ((Below.refl _ _).alloc (Nat.le_refl _) _).drew | exact (((Below.refl _ _).alloc (Nat.le_refl _) _).alloc (by simp) _).drew | exact (((Below.refl _ _).alloc (Nat.le_refl _) _).drew.alloc (by simp) _))).flat encF_len (by decide) ad had (fun _ => trivial) j u hj)); (case h63 => (unfold maxLen; omega)); (case hby => omega); (case hbase => (have := hBr.size; simp; omega)); intro v' w5 hown' hgrow hfr; rw [Nat.zero_add, List.nil_append] at hown'; obtain ⟨g0, g1, g2, g3, g4, g5, g6, g7⟩ := (hD8.below (by first | exact ((Below.refl _ _).alloc (Nat.le_refl _) _).drew | exact (((Below.refl _ _).alloc (Nat.le_refl _) _).alloc (by simp) _).drew | exact (((Below.refl _ _).alloc (Nat.le_refl _) _).drew.alloc (by simp) _))).grown hgrow (by simp [Value.ownBlock]; omega); simp only [Nat.zero_add] at g0 g1 g2 g3 g4 g5 g6 g7)) | ((refine step_append_own2 rfl _ _ 22 rfl w.heap.size 28 i28 _ 8 64 Try.underlying22 hi28 hz280 hz281 hz282 rfl (by decide) v' 0 (([] : List Fact).flatMap encF) ?hown rfl ⟨_, 0, none⟩ 1 1 (encF f) rfl rfl ?hnews (encF_one f) ?h63 ?hby ?hbase ?_; (case hown => (first | exact hown' | exact hown'.alloc _)); (case hnews => (first | exact new8 _ _ _ | exact new8d _ _ _ | exact news_keep f (((Below.refl _ _).alloc (Nat.le_refl _) _).drew) hgrow (by simp [Value.ownBlock]) | (have := news_keep (wA := w'.alloc (.cells #[] 28)) f ((Below.refl _ _).drew) hgrow (by simp [Value.ownBlock]); simpa using this))); (case h63 => (unfold maxLen; omega)); (case hby => omega); (case hbase => (have := hBr.size; have := hgrow.size; simp at *; omega)); intro v6 w6 hown6 hgrow6 hfr6))))
        all_goals
            go_wp2_with fail
            have hx5 : Below w.heap.size w w5 := (hBr.on (by first | exact ((Below.refl _ _).alloc (Nat.le_refl _) _).drew | exact (((Below.refl _ _).alloc (Nat.le_refl _) _).alloc (by simp) _).drew | exact (((Below.refl _ _).alloc (Nat.le_refl _) _).drew.alloc (by simp) _))).grown hgrow (by have := hBr.size; simp; omega) (by intro k e; simp [Value.ownBlock] at e; have := hBr.size; omega)
            have hx6 : Below w.heap.size w w6 := by first | exact hx5.grown hgrow6 hx5.size (fun k e => (hown'.lt k e).1) | exact (hx5.alloc hx5.size _).grown hgrow6 (by have := hx5.size; simp; omega) (fun k e => (hown'.lt k e).1)
            rw [← hl0.out] at hown6
            (refine bodyPost_ret (v := .tuple #[v6, .int .i64 0]) (by simp [results, Try.results14, go_sem]) rfl ?_)
            exact ⟨_, by rw [addErr_nil HV.out], by rw [addL_ok (addErr_nil HV.out)]; exact OwnSL.snoc hown6, hx6⟩
  · have HK := Lib.hid hck
    have hne : (checkF l != 0) = true := by simp [hck]
    clear hck hw1
    go_enter Try.func14, Try.ntmps14
    go_wp2_with (go_at_call 16; rw [HW.out]; refine HCK.out.mono ?_; rintro e w2 ⟨rfl, hB⟩)
    (refine bodyPost_ret (v := .tuple #[.slice none 0 0, .int .i64 (checkF l)]) (by simp [results, Try.results14, go_sem]) rfl ?_)
    exact ⟨_, by rw [addErr_chk HK.out], by rw [addL_err (addErr_chk HK.out) HK.out]; exact OwnSL.nil _ _ _ _ _, hal.on hB⟩
end Go.Proofs.Ytfhekhjojdhmhaa
