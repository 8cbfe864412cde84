/- The model's == at ranges, results, changes and pairs. -/
import Derived.Test.YtehoidohallfcaaGreatDoorKaX
import Derived.DeepKeys5
namespace Go.Proofs.YtehoidohallfcaaGreatDoor
open Go.RowKit
theorem eqInD_rng (d : Nat) (a b c e : Int) (w : World) : (Op.equalIn (d + 2) 51 (.agg #[.int .i64 a, .int .i64 b]) (.agg #[.int .i64 c, .int .i64 e])).run Tryz.prog w = .ok (decide (a = c ∧ b = e)) w := by
 have u3 := Tryz.underlying3
 have a3 := Tryz.isAgg3
 have z3 := Tryz.sizeOf3
 have hS : Tryz.prog.underlying 51 = some (.struct (Tryz.prog.fieldsOf 51)) := by kernel_rfl
 have hp : Tryz.prog.stoodInHeld 51 = false := by kernel_rfl
 rw [show d + 2 = (d + 1) + 1 from rfl, run_equalIn_agg w (d + 1) 51 _ _ hS hp]
 simp only [Program.fieldsOf, Tryz.underlying51]
 go_simp
 by_cases h1 : a = c <;> by_cases h2 : b = e <;> simp [h1, h2]
theorem eqIn_rs (a b : Rs) (w : World) : (Op.equalIn 10000 53 (.agg #[.int .i64 a.cm, .int .i64 a.pz, .int .i64 a.tr, .int .i64 a.lo, .int .i64 a.hi, .bool a.rt]) (.agg #[.int .i64 b.cm, .int .i64 b.pz, .int .i64 b.tr, .int .i64 b.lo, .int .i64 b.hi, .bool b.rt])).run Tryz.prog w = .ok (decide (a = b)) w := by
 have u3 := Tryz.underlying3
 have a3 := Tryz.isAgg3
 have z3 := Tryz.sizeOf3
 have u4 := Tryz.underlying4
 have a4 := Tryz.isAgg4
 have z4 := Tryz.sizeOf4
 have a51 := Tryz.isAgg51
 have z51 := Tryz.sizeOf51
 have hS : Tryz.prog.underlying 53 = some (.struct (Tryz.prog.fieldsOf 53)) := by kernel_rfl
 have hp : Tryz.prog.stoodInHeld 53 = false := by kernel_rfl
 have hs : ∀ w, (Op.equalIn 9999 51 (.agg #[.int .i64 a.lo, .int .i64 a.hi]) (.agg #[.int .i64 b.lo, .int .i64 b.hi])).run Tryz.prog w = .ok (decide (a.lo = b.lo ∧ a.hi = b.hi)) w := eqInD_rng 9997 a.lo a.hi b.lo b.hi
 rw [show (10000 : Nat) = 9999 + 1 from rfl, run_equalIn_agg w 9999 53 _ _ hS hp]
 simp only [Program.fieldsOf, Tryz.underlying53]
 go_simp
 obtain ⟨a1, a2, a3, a4, a5, a6⟩ := a
 obtain ⟨b1, b2, b3, b4, b5, b6⟩ := b
 simp only [Rs.mk.injEq]
 by_cases h1 : a1 = b1 <;> by_cases h2 : a2 = b2 <;> by_cases h3 : a3 = b3 <;> by_cases h4 : a4 = b4 <;> by_cases h5 : a5 = b5 <;> by_cases h6 : a6 = b6 <;> simp [h1, h2, h3, h4, h5, h6]
theorem eqIn_cg (a b : Cg) (w : World) : (Op.equalIn 10000 55 (.agg #[.int .i64 a.cm, .int .i64 a.b1, .int .i64 a.b2, .int .i64 a.a1, .int .i64 a.a2, .int .i64 a.ft]) (.agg #[.int .i64 b.cm, .int .i64 b.b1, .int .i64 b.b2, .int .i64 b.a1, .int .i64 b.a2, .int .i64 b.ft])).run Tryz.prog w = .ok (decide (a = b)) w := by
 have u3 := Tryz.underlying3
 have a3 := Tryz.isAgg3
 have z3 := Tryz.sizeOf3
 have a51 := Tryz.isAgg51
 have z51 := Tryz.sizeOf51
 have hS : Tryz.prog.underlying 55 = some (.struct (Tryz.prog.fieldsOf 55)) := by kernel_rfl
 have hp : Tryz.prog.stoodInHeld 55 = false := by kernel_rfl
 have hs : ∀ w, (Op.equalIn 9999 51 (.agg #[.int .i64 a.b1, .int .i64 a.b2]) (.agg #[.int .i64 b.b1, .int .i64 b.b2])).run Tryz.prog w = .ok (decide (a.b1 = b.b1 ∧ a.b2 = b.b2)) w := eqInD_rng 9997 _ _ _ _
 have hs2 : ∀ w, (Op.equalIn 9999 51 (.agg #[.int .i64 a.a1, .int .i64 a.a2]) (.agg #[.int .i64 b.a1, .int .i64 b.a2])).run Tryz.prog w = .ok (decide (a.a1 = b.a1 ∧ a.a2 = b.a2)) w := eqInD_rng 9997 _ _ _ _
 rw [show (10000 : Nat) = 9999 + 1 from rfl, run_equalIn_agg w 9999 55 _ _ hS hp]
 simp only [Program.fieldsOf, Tryz.underlying55]
 go_simp
 obtain ⟨a1, a2, a3, a4, a5, a6⟩ := a
 obtain ⟨b1, b2, b3, b4, b5, b6⟩ := b
 simp only [Cg.mk.injEq]
 by_cases h1 : a1 = b1 <;> by_cases h2 : a2 = b2 <;> by_cases h3 : a3 = b3 <;> by_cases h4 : a4 = b4 <;> by_cases h5 : a5 = b5 <;> by_cases h6 : a6 = b6 <;> simp [h1, h2, h3, h4, h5, h6]
theorem eqIn_rng (a b c e : Int) (w : World) : (Op.equalIn 10000 51 (.agg #[.int .i64 a, .int .i64 b]) (.agg #[.int .i64 c, .int .i64 e])).run Tryz.prog w = .ok (decide (a = c ∧ b = e)) w := eqInD_rng 9998 a b c e w
theorem eqIn_pr (a b c e : Int) (w : World) : (Op.equalIn 10000 84 (.agg #[.int .i64 a, .int .i64 b]) (.agg #[.int .i64 c, .int .i64 e])).run Tryz.prog w = .ok (decide (a = c ∧ b = e)) w := by
 have u3 := Tryz.underlying3
 have a3 := Tryz.isAgg3
 have z3 := Tryz.sizeOf3
 have hc : Tryz.prog.cellsOf 3 = 1 := by kernel_rfl
 obtain ⟨i3, hi3, _, _, _⟩ := info_parts info_int
 rw [show (10000 : Nat) = 9999 + 1 from rfl, run_equalIn_array w 9999 _ _ Tryz.underlying84 hi3, hc, show List.range 2 = [0, 1] from rfl]
 simp only [Op.eqItems]
 go_simp
 by_cases h1 : a = c <;> by_cases h2 : b = e <;> simp [h1, h2]
theorem guard_rs : Tryz.prog.eqGuardType Tryz.prog.depth 53 = false := by kernel_rfl
theorem guard_cg : Tryz.prog.eqGuardType Tryz.prog.depth 55 = false := by kernel_rfl
theorem guard_rng : Tryz.prog.eqGuardType Tryz.prog.depth 51 = false := by kernel_rfl
theorem guard_pr : Tryz.prog.eqGuardType Tryz.prog.depth 84 = false := by kernel_rfl
end Go.Proofs.YtehoidohallfcaaGreatDoor
/- Contracts of ref13.Same, ref54.SameResults, SameChanges, ref53.Same, Few and ref54.Few. -/
namespace Go.Proofs.YtehoidohallfcaaGreatDoor
open Go.RowKit
def sameUpto {α : Type} (l m : List α) (k : Nat) : Prop := l.take k = m.take k
theorem same_step {α : Type} {l m : List α} {k : Nat} {x : α} (h : sameUpto l m k) (hx : l[k]? = some x) (hy : m[k]? = some x) : sameUpto l m (k + 1) := by
 unfold sameUpto at *; rw [takeF hx, takeF hy, h]
theorem same_end {α : Type} {l m : List α} {n : Nat} (h : sameUpto l m n) (hl : l.length ≤ n) (hm : m.length ≤ n) : l = m := by
 unfold sameUpto at h; rwa [List.take_of_length_le hl, List.take_of_length_le hm] at h
theorem Ints.sl {w : World} {a : Option Addr} {n c : Nat} {l : List Int} (h : Ints w a n c l) : SL encI 1 w a n c l := ⟨h.len, h.cap, h.mx, h.at', fun b o e i x hx j v hv => by
 have hj : j = 0 := by
  have := (List.getElem?_eq_some_iff.1 hv).1
  simp [encI] at this; omega
 subst hj
 simp [encI] at hv; subst hv
 subst e
 rw [Nat.mul_one, Nat.add_zero]
 exact h.get hx⟩
theorem SL.i1 {w : World} {b o n c i : Nat} {l : List Int} (h : SL encI 1 w (some ⟨b, o, none⟩) n c l) {x : Int} (hx : l[i]? = some x) : w.cell? ⟨b, o + i, none⟩ = some (.int .i64 x) := by
 have := h.cell b o rfl i x hx 0 _ rfl
 rw [Nat.mul_one, Nat.add_zero] at this; exact this
theorem SL.pr2 {w : World} {b o n c i : Nat} {l : List (Int × Int)} (h : SL encPr 2 w (some ⟨b, o, none⟩) n c l) {x : Int × Int} (hx : l[i]? = some x) : w.cell? ⟨b, o + i * 2, none⟩ = some (.int .i64 x.1) ∧ w.cell? ⟨b, o + i * 2 + 1, none⟩ = some (.int .i64 x.2) :=
 ⟨h.cell b o rfl i x hx 0 _ rfl, h.cell b o rfl i x hx 1 _ rfl⟩
theorem SL.cg6 {w : World} {b o n c i : Nat} {l : List Cg} (h : SL encCg 6 w (some ⟨b, o, none⟩) n c l) {x : Cg} (hx : l[i]? = some x) : w.cell? ⟨b, o + i * 6, none⟩ = some (.int .i64 x.cm) ∧ w.cell? ⟨b, o + i * 6 + 1, none⟩ = some (.int .i64 x.b1) ∧ w.cell? ⟨b, o + i * 6 + 2, none⟩ = some (.int .i64 x.b2) ∧ w.cell? ⟨b, o + i * 6 + 3, none⟩ = some (.int .i64 x.a1) ∧ w.cell? ⟨b, o + i * 6 + 4, none⟩ = some (.int .i64 x.a2) ∧ w.cell? ⟨b, o + i * 6 + 5, none⟩ = some (.int .i64 x.ft) :=
 ⟨h.cell b o rfl i x hx 0 _ rfl, h.cell b o rfl i x hx 1 _ rfl, h.cell b o rfl i x hx 2 _ rfl, h.cell b o rfl i x hx 3 _ rfl, h.cell b o rfl i x hx 4 _ rfl, h.cell b o rfl i x hx 5 _ rfl⟩
set_option maxRecDepth 10000 in
set_option maxHeartbeats 2000000 in
theorem same13s (a0 a1 : Option Addr) (n0 c0 n1 c1 : Nat) (l m : List Int) (w : World) (h0 : SL encI 1 w a0 n0 c0 l) (h1 : SL encI 1 w a1 n1 c1 m) :
 Calls Tryz.prog 22 #[.slice a0 n0 c0, .slice a1 n1 c1] w fun e w' => e = .returned (.bool (decide (l = m))) ∧ ∃ q, w' = w.drewN q := by
 have hm0 := h0.mx
 have hc0 := h0.cap
 have hl0 := Lib.hid h0.len
 have hm1 := h1.mx
 have hc1 := h1.cap
 have hl1 := Lib.hid h1.len
 unfold maxLen at hm0 hm1
 by_cases hn : n0 = n1
 · subst hn
   have t0 : ((n0 : Int) != (n0 : Int)) = false := by simp
   skip
   go_enter Tryz.func22, Tryz.ntmps22
   go_wp2_with fail
   go_loopw [5] (fun i wr => ∃ k : Nat, k ≤ n0 ∧ i = .int .i64 k ∧ Hid (sameUpto l m k) ∧ ∃ q, wr = w.drewN q) (fun i _ => n0 - (intOf i).toNat)
   case atStart => exact ⟨0, by omega, rfl, Lib.hid rfl, 0, rfl⟩
   case round =>
    obtain ⟨k, hk, rfl, HM, q, rfl⟩ := hrel
    by_cases hlt : k < n0
    · obtain ⟨b0, o0, rfl, hb0⟩ := h0.at' (by omega)
      obtain ⟨b1, o1, rfl, hb1⟩ := h1.at' (by omega)
      obtain ⟨x, hx⟩ := h0.get hlt
      obtain ⟨y, hy⟩ := h1.get hlt
      have e0 := h0.i1 hx
      have f0 := h1.i1 hy
      have HX := Lib.hid hx
      have HY := Lib.hid hy
      clear hx hy
      by_cases hxy : x = y
      · have HXY := Lib.hid hxy
        first | (have hE : (x != y) = false := by simpa using hxy) | (have hE : (x != y) = true := by simpa using hxy)
        clear hxy
        go_wp2_with (go_quiet (fail))
        go_roundw
        case rel => exact ⟨k + 1, by omega, by go_num, Lib.hid (same_step HM.out HX.out (by rw [HXY.out]; exact HY.out)), (by first | exact ⟨_, rfl⟩ | exact ⟨_, World.drewN_drewN⟩ | exact ⟨0, rfl⟩ | exact ⟨_, by simp only [World.drewN_drewN]; rfl⟩)⟩
        case measure => simp [intOf]; omega
      · have HXY := Lib.hid hxy
        first | (have hE : (x != y) = false := by simpa using hxy) | (have hE : (x != y) = true := by simpa using hxy)
        clear hxy
        go_wp2_with (go_quiet (fail))
        go_ret
        refine ⟨ret_bool ?_, (by first | exact ⟨_, rfl⟩ | exact ⟨_, World.drewN_drewN⟩ | exact ⟨0, rfl⟩ | exact ⟨_, by simp only [World.drewN_drewN]; rfl⟩)⟩
        symm
        rw [decide_eq_false_iff_not]
        rintro rfl
        exact HXY.out (by have := HX.out.symm.trans HY.out; injection this)
    · obtain rfl : n0 = k := by omega
      go_wp2_with fail
      go_ret
      refine ⟨ret_bool ?_, (by first | exact ⟨_, rfl⟩ | exact ⟨_, World.drewN_drewN⟩ | exact ⟨0, rfl⟩ | exact ⟨_, by simp only [World.drewN_drewN]; rfl⟩)⟩
      symm
      rw [decide_eq_true_eq]
      exact same_end HM.out (by rw [hl0.out]; omega) (by rw [hl1.out]; omega)
 · have t0 : ((n0 : Int) != (n1 : Int)) = true := by simp; omega
   have HN := Lib.hid hn
   clear hn
   go_enter Tryz.func22, Tryz.ntmps22
   go_wp2_with fail
   go_ret
   refine ⟨ret_bool ?_, 0, rfl⟩
   symm
   rw [decide_eq_false_iff_not]
   rintro rfl
   exact HN.out (by rw [← hl0.out, ← hl1.out])
set_option maxRecDepth 10000 in
set_option maxHeartbeats 2000000 in
theorem sameRs_any (a0 a1 : Option Addr) (n0 c0 n1 c1 : Nat) (l m : List Rs) (w : World) (h0 : SL encRs 6 w a0 n0 c0 l) (h1 : SL encRs 6 w a1 n1 c1 m) :
 Calls Tryz.prog 15 #[.slice a0 n0 c0, .slice a1 n1 c1] w fun e w' => e = .returned (.bool (decide (l = m))) ∧ ∃ q, w' = w.drewN q := by
 have hm0 := h0.mx
 have hc0 := h0.cap
 have hl0 := Lib.hid h0.len
 have hm1 := h1.mx
 have hc1 := h1.cap
 have hl1 := Lib.hid h1.len
 unfold maxLen at hm0 hm1
 by_cases hn : n0 = n1
 · subst hn
   have t0 : ((n0 : Int) != (n0 : Int)) = false := by simp
   have hg := guard_rs
   go_enter Tryz.func15, Tryz.ntmps15
   go_wp2_with fail
   go_loopw [5] (fun i wr => ∃ k : Nat, k ≤ n0 ∧ i = .int .i64 k ∧ Hid (sameUpto l m k) ∧ ∃ q, wr = w.drewN q) (fun i _ => n0 - (intOf i).toNat)
   case atStart => exact ⟨0, by omega, rfl, Lib.hid rfl, 0, rfl⟩
   case round =>
    obtain ⟨k, hk, rfl, HM, q, rfl⟩ := hrel
    by_cases hlt : k < n0
    · obtain ⟨b0, o0, rfl, hb0⟩ := h0.at' (by omega)
      obtain ⟨b1, o1, rfl, hb1⟩ := h1.at' (by omega)
      obtain ⟨x, hx⟩ := h0.get hlt
      obtain ⟨y, hy⟩ := h1.get hlt
      obtain ⟨e0, e1, e2, e3, e4, e5⟩ := h0.rs6 hx
      obtain ⟨f0, f1, f2, f3, f4, f5⟩ := h1.rs6 hy
      have HX := Lib.hid hx
      have HY := Lib.hid hy
      clear hx hy
      by_cases hxy : x = y
      · have HXY := Lib.hid hxy
        have hE := eqIn_rs x y; first | rw [decide_eq_true hxy] at hE | rw [decide_eq_false hxy] at hE
        clear hxy
        go_wp2_with (go_quiet (fail))
        go_roundw
        case rel => exact ⟨k + 1, by omega, by go_num, Lib.hid (same_step HM.out HX.out (by rw [HXY.out]; exact HY.out)), (by first | exact ⟨_, rfl⟩ | exact ⟨_, World.drewN_drewN⟩ | exact ⟨0, rfl⟩ | exact ⟨_, by simp only [World.drewN_drewN]; rfl⟩)⟩
        case measure => simp [intOf]; omega
      · have HXY := Lib.hid hxy
        have hE := eqIn_rs x y; first | rw [decide_eq_true hxy] at hE | rw [decide_eq_false hxy] at hE
        clear hxy
        go_wp2_with (go_quiet (fail))
        go_ret
        refine ⟨ret_bool ?_, (by first | exact ⟨_, rfl⟩ | exact ⟨_, World.drewN_drewN⟩ | exact ⟨0, rfl⟩ | exact ⟨_, by simp only [World.drewN_drewN]; rfl⟩)⟩
        symm
        rw [decide_eq_false_iff_not]
        rintro rfl
        exact HXY.out (by have := HX.out.symm.trans HY.out; injection this)
    · obtain rfl : n0 = k := by omega
      go_wp2_with fail
      go_ret
      refine ⟨ret_bool ?_, (by first | exact ⟨_, rfl⟩ | exact ⟨_, World.drewN_drewN⟩ | exact ⟨0, rfl⟩ | exact ⟨_, by simp only [World.drewN_drewN]; rfl⟩)⟩
      symm
      rw [decide_eq_true_eq]
      exact same_end HM.out (by rw [hl0.out]; omega) (by rw [hl1.out]; omega)
 · have t0 : ((n0 : Int) != (n1 : Int)) = true := by simp; omega
   have HN := Lib.hid hn
   clear hn
   go_enter Tryz.func15, Tryz.ntmps15
   go_wp2_with fail
   go_ret
   refine ⟨ret_bool ?_, 0, rfl⟩
   symm
   rw [decide_eq_false_iff_not]
   rintro rfl
   exact HN.out (by rw [← hl0.out, ← hl1.out])
set_option maxRecDepth 10000 in
set_option maxHeartbeats 2000000 in
theorem sameCg_any (a0 a1 : Option Addr) (n0 c0 n1 c1 : Nat) (l m : List Cg) (w : World) (h0 : SL encCg 6 w a0 n0 c0 l) (h1 : SL encCg 6 w a1 n1 c1 m) :
 Calls Tryz.prog 19 #[.slice a0 n0 c0, .slice a1 n1 c1] w fun e w' => e = .returned (.bool (decide (l = m))) ∧ ∃ q, w' = w.drewN q := by
 have hm0 := h0.mx
 have hc0 := h0.cap
 have hl0 := Lib.hid h0.len
 have hm1 := h1.mx
 have hc1 := h1.cap
 have hl1 := Lib.hid h1.len
 unfold maxLen at hm0 hm1
 by_cases hn : n0 = n1
 · subst hn
   have t0 : ((n0 : Int) != (n0 : Int)) = false := by simp
   have hg := guard_cg
   go_enter Tryz.func19, Tryz.ntmps19
   go_wp2_with fail
   go_loopw [5] (fun i wr => ∃ k : Nat, k ≤ n0 ∧ i = .int .i64 k ∧ Hid (sameUpto l m k) ∧ ∃ q, wr = w.drewN q) (fun i _ => n0 - (intOf i).toNat)
   case atStart => exact ⟨0, by omega, rfl, Lib.hid rfl, 0, rfl⟩
   case round =>
    obtain ⟨k, hk, rfl, HM, q, rfl⟩ := hrel
    by_cases hlt : k < n0
    · obtain ⟨b0, o0, rfl, hb0⟩ := h0.at' (by omega)
      obtain ⟨b1, o1, rfl, hb1⟩ := h1.at' (by omega)
      obtain ⟨x, hx⟩ := h0.get hlt
      obtain ⟨y, hy⟩ := h1.get hlt
      obtain ⟨e0, e1, e2, e3, e4, e5⟩ := h0.cg6 hx
      obtain ⟨f0, f1, f2, f3, f4, f5⟩ := h1.cg6 hy
      have HX := Lib.hid hx
      have HY := Lib.hid hy
      clear hx hy
      by_cases hxy : x = y
      · have HXY := Lib.hid hxy
        have hE := eqIn_cg x y; first | rw [decide_eq_true hxy] at hE | rw [decide_eq_false hxy] at hE
        clear hxy
        go_wp2_with (go_quiet (fail))
        go_roundw
        case rel => exact ⟨k + 1, by omega, by go_num, Lib.hid (same_step HM.out HX.out (by rw [HXY.out]; exact HY.out)), (by first | exact ⟨_, rfl⟩ | exact ⟨_, World.drewN_drewN⟩ | exact ⟨0, rfl⟩ | exact ⟨_, by simp only [World.drewN_drewN]; rfl⟩)⟩
        case measure => simp [intOf]; omega
      · have HXY := Lib.hid hxy
        have hE := eqIn_cg x y; first | rw [decide_eq_true hxy] at hE | rw [decide_eq_false hxy] at hE
        clear hxy
        go_wp2_with (go_quiet (fail))
        go_ret
        refine ⟨ret_bool ?_, (by first | exact ⟨_, rfl⟩ | exact ⟨_, World.drewN_drewN⟩ | exact ⟨0, rfl⟩ | exact ⟨_, by simp only [World.drewN_drewN]; rfl⟩)⟩
        symm
        rw [decide_eq_false_iff_not]
        rintro rfl
        exact HXY.out (by have := HX.out.symm.trans HY.out; injection this)
    · obtain rfl : n0 = k := by omega
      go_wp2_with fail
      go_ret
      refine ⟨ret_bool ?_, (by first | exact ⟨_, rfl⟩ | exact ⟨_, World.drewN_drewN⟩ | exact ⟨0, rfl⟩ | exact ⟨_, by simp only [World.drewN_drewN]; rfl⟩)⟩
      symm
      rw [decide_eq_true_eq]
      exact same_end HM.out (by rw [hl0.out]; omega) (by rw [hl1.out]; omega)
 · have t0 : ((n0 : Int) != (n1 : Int)) = true := by simp; omega
   have HN := Lib.hid hn
   clear hn
   go_enter Tryz.func19, Tryz.ntmps19
   go_wp2_with fail
   go_ret
   refine ⟨ret_bool ?_, 0, rfl⟩
   symm
   rw [decide_eq_false_iff_not]
   rintro rfl
   exact HN.out (by rw [← hl0.out, ← hl1.out])
theorem same13_any (a0 a1 : Option Addr) (n0 c0 n1 c1 : Nat) (l m : List Int) (w : World) (h0 : Ints w a0 n0 c0 l) (h1 : Ints w a1 n1 c1 m) :
 Calls Tryz.prog 22 #[.slice a0 n0 c0, .slice a1 n1 c1] w fun e w' => e = .returned (.bool (decide (l = m))) ∧ ∃ q, w' = w.drewN q := same13s a0 a1 n0 c0 n1 c1 l m w h0.sl h1.sl
end Go.Proofs.YtehoidohallfcaaGreatDoor
/- Contracts of ref53.Same, Few and ref54.Few. -/
namespace Go.Proofs.YtehoidohallfcaaGreatDoor
open Go.RowKit
structure Sr where
 r : Rk
 ba : Option Addr
 bn : Nat
 bc : Nat
 wa : Option Addr
 wn : Nat
 wc : Nat
 ua : Option Addr
 un : Nat
 uc : Nat
structure Sr.In (S : Sr) (w : World) : Prop where
 best : Ints w S.ba S.bn S.bc S.r.best
 worst : Ints w S.wa S.wn S.wc S.r.worst
 und : SL encPr 2 w S.ua S.un S.uc S.r.und
theorem Sr.In.below {S : Sr} {w w' : World} (h : S.In w) (hb : Below w.heap.size w w') : S.In w' := ⟨h.best.below hb, h.worst.below hb, h.und.below hb⟩
def Sr.New (S : Sr) (base : Nat) : Prop := (∀ q, (Value.slice S.ba S.bn S.bc).ownBlock = some q → base ≤ q) ∧ (∀ q, (Value.slice S.wa S.wn S.wc).ownBlock = some q → base ≤ q) ∧ ∀ q, (Value.slice S.ua S.un S.uc).ownBlock = some q → base ≤ q
theorem Sr.In.setOther {S : Sr} {w : World} {base : Nat} (h : S.In w) (hn : S.New base) {p : Addr} (hp : p.block < base) (v : Value) : S.In (w.setCell p v) :=
 ⟨h.best.setOther v (fun _ e => by have := hn.1 _ e; omega), h.worst.setOther v (fun _ e => by have := hn.2.1 _ e; omega), h.und.setOther v (fun _ e => by have := hn.2.2 _ e; omega)⟩
def rkSame (a b : Rk) : Bool := decide (a.best = b.best) && (decide (a.worst = b.worst) && decide (a.und = b.und))
theorem Box.g3 {w : World} {B : Nat} {v0 v1 v2 : Value} {t : TypeId} (h : Box w B #[v0, v1, v2] t) : w.cell? ⟨B, 0, none⟩ = some v0 ∧ w.cell? ⟨B, 1, none⟩ = some v1 ∧ w.cell? ⟨B, 2, none⟩ = some v2 :=
 ⟨by simpa using h.cell 0, by simpa using h.cell 1, by simpa using h.cell 2⟩
set_option maxRecDepth 10000 in
set_option maxHeartbeats 4000000 in
theorem same53_any (A B : Sr) (W : World) (hA : A.In W) (hB : B.In W) :
 Calls Tryz.prog 16 #[.agg #[.slice A.ba A.bn A.bc, .slice A.wa A.wn A.wc, .slice A.ua A.un A.uc], .agg #[.slice B.ba B.bn B.bc, .slice B.wa B.wn B.wc, .slice B.ua B.un B.uc]] W fun e w' => RetB W (.bool (rkSame A.r B.r)) e w' := by
 have hx1 : Box ((W.alloc (.cells #[.slice A.ba A.bn A.bc, .slice A.wa A.wn A.wc, .slice A.ua A.un A.uc] 35)).alloc (.cells #[.slice B.ba B.bn B.bc, .slice B.wa B.wn B.wc, .slice B.ua B.un B.uc] 35)) W.heap.size #[.slice A.ba A.bn A.bc, .slice A.wa A.wn A.wc, .slice A.ua A.un A.uc] 35 := (Box.new W _ _).alloc _
 have hx2 := Box.new (W.alloc (.cells #[.slice A.ba A.bn A.bc, .slice A.wa A.wn A.wc, .slice A.ua A.un A.uc] 35)) #[.slice B.ba B.bn B.bc, .slice B.wa B.wn B.wc, .slice B.ua B.un B.uc] 35
 rw [World.size_alloc] at hx2
 have hbb : Below W.heap.size W ((W.alloc (.cells #[.slice A.ba A.bn A.bc, .slice A.wa A.wn A.wc, .slice A.ua A.un A.uc] 35)).alloc (.cells #[.slice B.ba B.bn B.bc, .slice B.wa B.wn B.wc, .slice B.ua B.un B.uc] 35)) := ((Below.refl _ _).alloc (Nat.le_refl _) _).alloc (by simp) _
 obtain ⟨w0, hw0⟩ : ∃ w0, (W.alloc (.cells #[.slice A.ba A.bn A.bc, .slice A.wa A.wn A.wc, .slice A.ua A.un A.uc] 35)).alloc (.cells #[.slice B.ba B.bn B.bc, .slice B.wa B.wn B.wc, .slice B.ua B.un B.uc] 35) = w0 := ⟨_, rfl⟩
 rw [hw0] at hx1 hx2 hbb
 have HW0 := Lib.hid hw0
 have hE := Lib.hid (show rkSame A.r B.r = (decide (A.r.best = B.r.best) && (decide (A.r.worst = B.r.worst) && decide (A.r.und = B.r.und))) from rfl)
 clear hw0
 have hA0 := hA.below hbb
 have hB0 := hB.below hbb
 obtain ⟨d0, d1, d2⟩ := hx1.g3
 obtain ⟨e0, e1, e2⟩ := hx2.g3
 by_cases c1 : A.r.best = B.r.best
 rotate_left
 · have C1 : Hid (decide (A.r.best = B.r.best) = false) := Lib.hid (decide_eq_false c1)
   clear c1
   go_enter Tryz.func16, Tryz.ntmps16
   go_wp2_with fail
   rw [HW0.out]
   go_wp2_with fail
   refine (same13_any _ _ _ _ _ _ _ _ _ hA0.best hB0.best).mono ?_
   rintro e w1 ⟨rfl, q1, rfl⟩
   rw [C1.out]
   go_wp2_with fail
   go_ret
   exact ⟨ret_bool (by rw [hE.out, C1.out]; rfl), below_drewN hbb _⟩
 have C1 : Hid (decide (A.r.best = B.r.best) = true) := Lib.hid (decide_eq_true c1)
 clear c1
 by_cases c2 : A.r.worst = B.r.worst
 rotate_left
 · have C2 : Hid (decide (A.r.worst = B.r.worst) = false) := Lib.hid (decide_eq_false c2)
   clear c2
   go_enter Tryz.func16, Tryz.ntmps16
   go_wp2_with fail
   rw [HW0.out]
   go_wp2_with fail
   refine (same13_any _ _ _ _ _ _ _ _ _ hA0.best hB0.best).mono ?_
   rintro e w1 ⟨rfl, q1, rfl⟩
   rw [C1.out]
   go_wp2_with fail
   refine (same13_any _ _ _ _ _ _ _ _ _ (hA0.worst.drewN _) (hB0.worst.drewN _)).mono ?_
   rintro e w2 ⟨rfl, q2, rfl⟩
   rw [C2.out]
   go_wp2_with fail
   go_ret
   exact ⟨ret_bool (by rw [hE.out, C1.out, C2.out]; rfl), below_drewN hbb _⟩
 have C2 : Hid (decide (A.r.worst = B.r.worst) = true) := Lib.hid (decide_eq_true c2)
 clear c2
 have HLA := Lib.hid hA0.und.len
 have HLB := Lib.hid hB0.und.len
 by_cases c3 : A.un = B.un
 rotate_left
 · have n3 : ((A.un : Int) != (B.un : Int)) = true := by simp; omega
   have C3 : Hid (decide (A.r.und = B.r.und) = false) := Lib.hid (decide_eq_false fun h => c3 (by rw [← HLA.out, ← HLB.out, h]))
   clear c3
   go_enter Tryz.func16, Tryz.ntmps16
   go_wp2_with fail
   rw [HW0.out]
   go_wp2_with fail
   refine (same13_any _ _ _ _ _ _ _ _ _ hA0.best hB0.best).mono ?_
   rintro e w1 ⟨rfl, q1, rfl⟩
   rw [C1.out]
   go_wp2_with fail
   refine (same13_any _ _ _ _ _ _ _ _ _ (hA0.worst.drewN _) (hB0.worst.drewN _)).mono ?_
   rintro e w2 ⟨rfl, q2, rfl⟩
   rw [C2.out]
   go_wp2_with fail
   go_ret
   exact ⟨ret_bool (by rw [hE.out, C1.out, C2.out, C3.out]; rfl), below_drewN hbb _⟩
 have n3 : ((A.un : Int) != (B.un : Int)) = false := by simp; omega
 have K3 := Lib.hid c3
 clear c3
 have hm0 := hA0.und.mx
 have hc0 := hA0.und.cap
 have hm1 := hB0.und.mx
 have hc1 := hB0.und.cap
 unfold maxLen at hm0 hm1
 have hg := guard_pr
 go_enter Tryz.func16, Tryz.ntmps16
 go_wp2_with fail
 rw [HW0.out]
 go_wp2_with fail
 refine (same13_any _ _ _ _ _ _ _ _ _ hA0.best hB0.best).mono ?_
 rintro e w1 ⟨rfl, q1, rfl⟩
 rw [C1.out]
 go_wp2_with fail
 refine (same13_any _ _ _ _ _ _ _ _ _ (hA0.worst.drewN _) (hB0.worst.drewN _)).mono ?_
 rintro e w2 ⟨rfl, q2, rfl⟩
 rw [C2.out]
 obtain ⟨wq, hwq⟩ : ∃ wq, (w0.drewN q1).drewN q2 = wq := ⟨_, rfl⟩
 have hbq : Below w0.heap.size w0 wq := by rw [← hwq]; exact below_drewN (below_drewN (Below.refl _ _) _) _
 rw [hwq]
 obtain ⟨d0, d1, d2⟩ := (hx1.below hbq).g3
 obtain ⟨e0, e1, e2⟩ := (hx2.below hbq).g3
 have hA1 := (hA0.below hbq).und
 have hB1 := (hB0.below hbq).und
 have HQ := Lib.hid hbq
 clear hwq hbq hx1 hx2 hA0 hB0 hA hB
 go_wp2_with fail
 go_loopw [5] (fun i wr => ∃ k : Nat, k ≤ A.un ∧ i = .int .i64 k ∧ Hid (sameUpto A.r.und B.r.und k) ∧ ∃ q, wr = wq.drewN q) (fun i _ => A.un - (intOf i).toNat)
 case atStart => exact ⟨0, by omega, rfl, Lib.hid rfl, 0, rfl⟩
 case round =>
  obtain ⟨k, hk, rfl, HM, q, rfl⟩ := hrel
  by_cases hlt : k < A.un
  · obtain ⟨b0, o0, ha0, hb0⟩ := hA1.at' (by omega)
    obtain ⟨b1, o1, ha1, hb1⟩ := hB1.at' (by have := K3.out; omega)
    obtain ⟨x, hx⟩ := hA1.get hlt
    obtain ⟨y, hy⟩ := hB1.get (by have := K3.out; omega : k < B.un)
    rw [ha0] at hA1 d2
    rw [ha1] at hB1 e2
    obtain ⟨x0, x1⟩ := hA1.pr2 hx
    obtain ⟨y0, y1⟩ := hB1.pr2 hy
    have HX := Lib.hid hx
    have HY := Lib.hid hy
    clear hx hy hA1 hB1 ha0 ha1
    have s3 : k < B.un := by have := K3.out; omega
    have hEq := fun w => eqIn_pr x.1 x.2 y.1 y.2 w
    by_cases hxy : x = y
    · have HXY := Lib.hid hxy
      rw [decide_eq_true (show x.1 = y.1 ∧ x.2 = y.2 by rw [hxy]; exact ⟨rfl, rfl⟩)] at hEq
      clear hxy
      go_wp2_with (go_quiet (fail))
      go_roundw
      case rel => exact ⟨k + 1, by omega, by go_num, Lib.hid (same_step HM.out HX.out (by rw [HXY.out]; exact HY.out)), (by first | exact ⟨_, rfl⟩ | exact ⟨_, World.drewN_drewN⟩ | exact ⟨0, rfl⟩ | exact ⟨_, by simp only [World.drewN_drewN]; rfl⟩)⟩
      case measure => simp [intOf]; omega
    · have HXY := Lib.hid hxy
      rw [decide_eq_false (show ¬ (x.1 = y.1 ∧ x.2 = y.2) from fun h => hxy (Prod.ext h.1 h.2))] at hEq
      clear hxy
      go_wp2_with (go_quiet (fail))
      go_ret
      refine ⟨ret_bool ?_, ?_⟩
      · symm
        rw [hE.out, C1.out, C2.out]
        simp only [Bool.true_and]
        rw [decide_eq_false_iff_not]
        intro he
        rw [he] at HX
        exact HXY.out (by have := HX.out.symm.trans HY.out; injection this)
      · exact (hbb.on HQ.out).on (by first | exact Below.refl _ _ | exact Below.drewN0 _ _ | exact (Below.drewN0 _ _).drew | exact (Below.refl _ _).drew | exact below_drewN (Below.drewN0 _ _) _)
  · obtain rfl : A.un = k := by omega
    have C3 : Hid (decide (A.r.und = B.r.und) = true) := Lib.hid (decide_eq_true (same_end HM.out (by rw [HLA.out]; omega) (by rw [HLB.out]; have := K3.out; omega)))
    go_wp2_with fail
    go_ret
    exact ⟨ret_bool (by rw [hE.out, C1.out, C2.out, C3.out]; rfl), (hbb.on HQ.out).on (by first | exact Below.refl _ _ | exact Below.drewN0 _ _ | exact (Below.drewN0 _ _).drew | exact (Below.refl _ _).drew | exact below_drewN (Below.drewN0 _ _) _)⟩
theorem few53_any (S : Sp) (al : Option Addr) (nl cl : Nat) (l : List Rs) (W : World) (hS : S.In W) (h0 : SL encRs 6 W al nl cl l) :
 Calls Tryz.prog 26 #[.agg #[.int .i64 S.sh.cs, .int .i64 S.sh.ps, .slice S.la S.ln S.lc, .slice S.ca S.cn S.cc, .slice S.pa S.pn S.pc, .slice S.ra S.rn S.rc], .slice al nl cl] W fun e w' => RetB W (.bool (few53 S.sh l)) e w' := by
 have hB : Below W.heap.size W (W.alloc (.cells #[.int .i64 S.sh.cs, .int .i64 S.sh.ps, .slice S.la S.ln S.lc, .slice S.ca S.cn S.cc, .slice S.pa S.pn S.pc, .slice S.ra S.rn S.rc] 25)) := al0 _ _ _
 obtain ⟨d0, d1, d2, d3, d4, d5⟩ := (Box.new W #[.int .i64 S.sh.cs, .int .i64 S.sh.ps, .slice S.la S.ln S.lc, .slice S.ca S.cn S.cc, .slice S.pa S.pn S.pc, .slice S.ra S.rn S.rc] 25).g6
 have HE := Lib.hid (show few53 S.sh l = (decide (S.sh.cs ≤ 4) && decide (S.sh.ps ≤ 3) && decide (l.length ≤ 12) && decide (S.sh.pg.length ≤ 30) && decide (S.sh.lv.length ≤ 8) && decide (S.sh.cl.length ≤ 8) && decide (S.sh.pr.length ≤ 10)) from rfl)
 have l1 := Lib.hid h0.len
 have l2 := Lib.hid hS.pg.len
 have l3 := Lib.hid hS.lv.len
 have l4 := Lib.hid hS.cl.len
 have l5 := Lib.hid hS.pr.len
 clear h0 hS
 by_cases c1 : S.sh.cs ≤ 4
 rotate_left
 · have nc1 : decide (S.sh.cs ≤ 4) = false := by simp; omega
   have Mc1 : Hid (decide (S.sh.cs ≤ 4) = false) := Lib.hid (decide_eq_false c1)
   clear c1
   go_enter Tryz.func26, Tryz.ntmps26
   go_wp2_with fail
   go_ret
   exact ⟨ret_bool (by rw [HE.out, Mc1.out]; rfl), hB⟩
 have nc1 : decide (S.sh.cs ≤ 4) = true := by simp; omega
 have Mc1 : Hid (decide (S.sh.cs ≤ 4) = true) := Lib.hid (decide_eq_true c1)
 clear c1
 by_cases c2 : S.sh.ps ≤ 3
 rotate_left
 · have nc2 : decide (S.sh.ps ≤ 3) = false := by simp; omega
   have Mc2 : Hid (decide (S.sh.ps ≤ 3) = false) := Lib.hid (decide_eq_false c2)
   clear c2
   go_enter Tryz.func26, Tryz.ntmps26
   go_wp2_with fail
   go_ret
   exact ⟨ret_bool (by rw [HE.out, Mc1.out, Mc2.out]; rfl), hB⟩
 have nc2 : decide (S.sh.ps ≤ 3) = true := by simp; omega
 have Mc2 : Hid (decide (S.sh.ps ≤ 3) = true) := Lib.hid (decide_eq_true c2)
 clear c2
 by_cases c3 : l.length ≤ 12
 rotate_left
 · have nc3 : decide ((nl : Int) ≤ 12) = false := by have := l1.out; simp; omega
   have Mc3 : Hid (decide (l.length ≤ 12) = false) := Lib.hid (decide_eq_false c3)
   clear c3
   go_enter Tryz.func26, Tryz.ntmps26
   go_wp2_with fail
   go_ret
   exact ⟨ret_bool (by rw [HE.out, Mc1.out, Mc2.out, Mc3.out]; rfl), hB⟩
 have nc3 : decide ((nl : Int) ≤ 12) = true := by have := l1.out; simp; omega
 have Mc3 : Hid (decide (l.length ≤ 12) = true) := Lib.hid (decide_eq_true c3)
 clear c3
 by_cases c4 : S.sh.pg.length ≤ 30
 rotate_left
 · have nc4 : decide ((S.pn : Int) ≤ 30) = false := by have := l2.out; simp; omega
   have Mc4 : Hid (decide (S.sh.pg.length ≤ 30) = false) := Lib.hid (decide_eq_false c4)
   clear c4
   go_enter Tryz.func26, Tryz.ntmps26
   go_wp2_with fail
   go_ret
   exact ⟨ret_bool (by rw [HE.out, Mc1.out, Mc2.out, Mc3.out, Mc4.out]; rfl), hB⟩
 have nc4 : decide ((S.pn : Int) ≤ 30) = true := by have := l2.out; simp; omega
 have Mc4 : Hid (decide (S.sh.pg.length ≤ 30) = true) := Lib.hid (decide_eq_true c4)
 clear c4
 by_cases c5 : S.sh.lv.length ≤ 8
 rotate_left
 · have nc5 : decide ((S.ln : Int) ≤ 8) = false := by have := l3.out; simp; omega
   have Mc5 : Hid (decide (S.sh.lv.length ≤ 8) = false) := Lib.hid (decide_eq_false c5)
   clear c5
   go_enter Tryz.func26, Tryz.ntmps26
   go_wp2_with fail
   go_ret
   exact ⟨ret_bool (by rw [HE.out, Mc1.out, Mc2.out, Mc3.out, Mc4.out, Mc5.out]; rfl), hB⟩
 have nc5 : decide ((S.ln : Int) ≤ 8) = true := by have := l3.out; simp; omega
 have Mc5 : Hid (decide (S.sh.lv.length ≤ 8) = true) := Lib.hid (decide_eq_true c5)
 clear c5
 by_cases c6 : S.sh.cl.length ≤ 8
 rotate_left
 · have nc6 : decide ((S.cn : Int) ≤ 8) = false := by have := l4.out; simp; omega
   have Mc6 : Hid (decide (S.sh.cl.length ≤ 8) = false) := Lib.hid (decide_eq_false c6)
   clear c6
   go_enter Tryz.func26, Tryz.ntmps26
   go_wp2_with fail
   go_ret
   exact ⟨ret_bool (by rw [HE.out, Mc1.out, Mc2.out, Mc3.out, Mc4.out, Mc5.out, Mc6.out]; rfl), hB⟩
 have nc6 : decide ((S.cn : Int) ≤ 8) = true := by have := l4.out; simp; omega
 have Mc6 : Hid (decide (S.sh.cl.length ≤ 8) = true) := Lib.hid (decide_eq_true c6)
 clear c6
 by_cases c7 : S.sh.pr.length ≤ 10
 rotate_left
 · have nc7 : decide ((S.rn : Int) ≤ 10) = false := by have := l5.out; simp; omega
   have Mc7 : Hid (decide (S.sh.pr.length ≤ 10) = false) := Lib.hid (decide_eq_false c7)
   clear c7
   go_enter Tryz.func26, Tryz.ntmps26
   go_wp2_with fail
   go_ret
   exact ⟨ret_bool (by rw [HE.out, Mc1.out, Mc2.out, Mc3.out, Mc4.out, Mc5.out, Mc6.out, Mc7.out]; rfl), hB⟩
 have nc7 : decide ((S.rn : Int) ≤ 10) = true := by have := l5.out; simp; omega
 have Mc7 : Hid (decide (S.sh.pr.length ≤ 10) = true) := Lib.hid (decide_eq_true c7)
 clear c7
 go_enter Tryz.func26, Tryz.ntmps26
 go_wp2_with fail
 go_ret
 exact ⟨ret_bool (by rw [HE.out, Mc1.out, Mc2.out, Mc3.out, Mc4.out, Mc5.out, Mc6.out, Mc7.out]; rfl), hB⟩
theorem few54_any (S : Sp) (al : Option Addr) (nl cl : Nat) (l : List Rs) (fa : Option Addr) (fn fc : Nat) (fs : List (Ft Value)) (W : World) (hS : S.In W) (h0 : SL encRs 6 W al nl cl l) (hF : SL encFt 5 W fa fn fc fs) :
 Calls Tryz.prog 10 #[.agg #[.int .i64 S.sh.cs, .int .i64 S.sh.ps, .slice S.la S.ln S.lc, .slice S.ca S.cn S.cc, .slice S.pa S.pn S.pc, .slice S.ra S.rn S.rc], .slice al nl cl, .slice fa fn fc] W fun e w' => RetB W (.bool (few53 S.sh l && decide (fs.length ≤ 20))) e w' := by
 have hB : Below W.heap.size W (W.alloc (.cells #[.int .i64 S.sh.cs, .int .i64 S.sh.ps, .slice S.la S.ln S.lc, .slice S.ca S.cn S.cc, .slice S.pa S.pn S.pc, .slice S.ra S.rn S.rc] 25)) := al0 _ _ _
 obtain ⟨d0, d1, d2, d3, d4, d5⟩ := (Box.new W #[.int .i64 S.sh.cs, .int .i64 S.sh.ps, .slice S.la S.ln S.lc, .slice S.ca S.cn S.cc, .slice S.pa S.pn S.pc, .slice S.ra S.rn S.rc] 25).g6
 have HC := Lib.hid (few53_any S al nl cl l _ (hS.below hB) (h0.below hB))
 have l1 := Lib.hid hF.len
 clear h0 hS hF
 cases c1 : few53 S.sh l
 · rw [c1] at HC
   clear c1
   go_enter Tryz.func10, Tryz.ntmps10
   go_wp2_with fail
   refine HC.out.mono ?_
   rintro e w1 ⟨rfl, hB1⟩
   go_wp2_with fail
   go_ret
   exact ⟨ret_bool rfl, hB.on hB1⟩
 · rw [c1] at HC
   clear c1
   have hq : decide ((fn : Int) ≤ 20) = decide (fs.length ≤ 20) := by rw [l1.out]; exact decide_eq_decide.2 (by omega)
   have HQ := Lib.hid hq
   clear hq
   go_enter Tryz.func10, Tryz.ntmps10
   go_wp2_with fail
   refine HC.out.mono ?_
   rintro e w1 ⟨rfl, hB1⟩
   go_wp2_with fail
   go_ret
   exact ⟨ret_bool (by rw [HQ.out]; rfl), hB.on hB1⟩
end Go.Proofs.YtehoidohallfcaaGreatDoor
/- slices.ContainsFunc at rows of lists. -/
namespace Go.Proofs.YtehoidohallfcaaGreatDoor
open Go.RowKit
theorem Rows.nth {w : World} {b o n c : Nat} {ll : List (List Int)} (h : Rows w (some ⟨b, o, none⟩) n c ll) {i : Nat} {l : List Int} (hl : ll[i]? = some l) : ∃ ai ni ci, w.cell? ⟨b, o + i, none⟩ = some (.slice ai ni ci) ∧ Ints w ai ni ci l := by
 have hi : i < n := by rw [← h.len]; exact (List.getElem?_eq_some_iff.1 hl).1
 obtain ⟨ai, ni, ci, h1, h2⟩ := h.row b o rfl i hi
 rw [hl] at h2
 exact ⟨ai, ni, ci, h1, h2⟩
def row_Pred (ll : List (List Int)) (w : World) (f : FuncId) (caps : Array Value) (P : List Int → Bool) : Prop := ∀ l ∈ ll, ∀ (a : Option Addr) (n c : Nat) (W : World), Below w.heap.size w W → Ints W a n c l → Calls Tryz.prog f (#[.slice a n c] ++ caps) W fun e w' => RetB W (.bool (P l)) e w'
set_option maxRecDepth 10000 in
set_option maxHeartbeats 1000000 in
theorem row_index (f : FuncId) (caps : Array Value) (a0 : Option Addr) (n0 c0 : Nat) (ll : List (List Int)) (P : List Int → Bool) (w : World) (hen : Enters Tryz.prog f) (h0 : Rows w a0 n0 c0 ll) (hP : row_Pred ll w f caps P) :
 Calls Tryz.prog 82 #[.slice a0 n0 c0, .func (.func f) #[] caps] w fun e w' => ∃ z : Int, e = .returned (.int .i64 z) ∧ idxF ll P z ∧ Below w.heap.size w w' := by
 have hm0 := h0.mx
 have hc0 := h0.cap
 have hl0 := Lib.hid h0.len
 unfold maxLen at hm0
 have HP := Lib.hid hP
 clear hP
 unfold Enters at hen
 go_enter Tryz.func82, Tryz.ntmps82
 go_wp2_with fail
 go_loopw [8] (fun i wr => ∃ k : Nat, k ≤ n0 ∧ i = .int .i64 k ∧ Hid (noneUpto ll P k) ∧ Below w.heap.size w wr) (fun i _ => n0 - (intOf i).toNat)
 case atStart => exact ⟨0, by omega, rfl, Lib.hid (by intro x hx; simp at hx), Below.refl _ _⟩
 case round =>
  obtain ⟨k, hk, rfl, HM, hB⟩ := hrel
  by_cases hlt : k < n0
  · obtain ⟨b0, o0, rfl, hb0⟩ := h0.at' (by omega)
    obtain ⟨x, hx⟩ : ∃ x, ll[k]? = some x := ⟨_, List.getElem?_eq_getElem (by rw [hl0.out]; exact hlt)⟩
    obtain ⟨ai, ni, ci, e0, hI⟩ := (h0.below hB).nth hx
    have HX := Lib.hid hx
    have s0 : (0 : Int) ≤ (k : Int) := by omega
    have s1 : (k : Int) < (n0 : Int) := by omega
    have hc := HP.out x (List.mem_of_getElem? hx) ai ni ci wr hB hI
    clear hx hI
    cases hd : P x
    · have HD := Lib.hid hd
      rw [hd] at hc
      have HC := Lib.hid hc
      clear hc hd
      go_wp2_with (refine HC.out.mono ?_; rintro e w' ⟨rfl, hB2⟩)
      go_roundw
      case rel => exact ⟨k + 1, by omega, by go_num, Lib.hid (none_step HX.out HM.out HD.out), hB.on hB2⟩
      case measure => simp [intOf]; omega
    · have HD := Lib.hid hd
      rw [hd] at hc
      have HC := Lib.hid hc
      clear hc hd
      go_wp2_with (refine HC.out.mono ?_; rintro e w' ⟨rfl, hB2⟩)
      go_ret
      exact ⟨(k : Int), rfl, .inr ⟨k, x, rfl, HX.out, HD.out, HM.out⟩, hB.on hB2⟩
  · obtain rfl : n0 = k := by omega
    go_wp2_with fail
    go_ret
    refine ⟨-1, rfl, .inl ⟨rfl, fun x hx => HM.out x ?_⟩, hB⟩
    rw [List.take_of_length_le (by rw [hl0.out]; omega)]; exact hx
set_option maxRecDepth 10000 in
set_option maxHeartbeats 1000000 in
theorem row_contains (f : FuncId) (caps : Array Value) (a0 : Option Addr) (n0 c0 : Nat) (ll : List (List Int)) (P : List Int → Bool) (w : World) (hen : Enters Tryz.prog f) (h0 : Rows w a0 n0 c0 ll) (hP : row_Pred ll w f caps P) :
 Calls Tryz.prog 54 #[.slice a0 n0 c0, .func (.func f) #[] caps] w fun e w' => RetB w (.bool (ll.any P)) e w' := by
 have HI := Lib.hid (row_index f caps a0 n0 c0 ll P w hen h0 hP)
 clear hP hen
 have HK := Lib.hid (idx_any ll P)
 go_enter Tryz.func54, Tryz.ntmps54
 go_wp2_with (go_at_call 82; refine HI.out.mono ?_; rintro e w' ⟨z, rfl, hz, hB⟩; have HZ2 := Lib.hid (HK.out z hz); clear hz)
 all_goals
  go_ret
  exact ⟨ret_bool HZ2.out, hB⟩
end Go.Proofs.YtehoidohallfcaaGreatDoor
