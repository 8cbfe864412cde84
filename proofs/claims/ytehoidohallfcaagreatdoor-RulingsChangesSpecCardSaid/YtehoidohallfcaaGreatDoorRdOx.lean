/- The references' products, quotients and operations. -/
import Derived.Test.YtehoidohallfcaaGreatDoorRdG
import Derived.Test.YtehoidohallfcaaGreatDoorRdHx
namespace Go.Proofs.YtehoidohallfcaaGreatDoor
open Go.RowKit
theorem times_tf : (true == false) = false := rfl
theorem times_ft : (false == true) = false := rfl
theorem rtimes52_any (a b : Int) (W : World) (ha : -topI ≤ a ∧ a ≤ topI) (hb : -topI ≤ b ∧ b ≤ topI) : Calls Tryz.prog 267 #[.int .i64 a, .int .i64 b] W fun e w' => e = .returned (.int .i64 (timesI a b)) ∧ w' = W := by
 by_cases h1 : a = 0
 · have n1 : (a == 0) = true := by simpa using h1
   have HR : Hid (timesI a b = 0) := Lib.hid (times_zero (.inl h1))
   clear h1 ha hb
   go_enter Tryz.func267, Tryz.ntmps267
   go_wp2_with fail
   go_ret
   exact ⟨by rw [HR.out]; rfl, rfl⟩
 have n1 : (a == 0) = false := by simpa using h1
 by_cases h2 : b = 0
 · have n2 : (b == 0) = true := by simpa using h2
   have HR : Hid (timesI a b = 0) := Lib.hid (times_zero (.inr h2))
   clear h1 h2 ha hb
   go_enter Tryz.func267, Tryz.ntmps267
   go_wp2_with fail
   go_ret
   exact ⟨by rw [HR.out]; rfl, rfl⟩
 have n2 : (b == 0) = false := by simpa using h2
 have HR := Lib.hid (times_pos h1 h2)
 have HCB := Lib.hid (cap_bd (x := max a (-a)) (y := max b (-b)) (by omega) (by omega))
 have hba : -1099511627776 ≤ a ∧ a ≤ 1099511627776 := by unfold topI at ha; omega
 have hbb : -1099511627776 ≤ b ∧ b ≤ 1099511627776 := by unfold topI at hb; omega
 have wa : IntKind.i64.wrap (-a) = -a := by rw [IntKind.wrap_i64]; omega
 have wb : IntKind.i64.wrap (-b) = -b := by rw [IntKind.wrap_i64]; omega
 clear ha hb
 go_enter Tryz.func267, Tryz.ntmps267
 go_wp2_with fail
 all_goals
  go_ret
  refine ⟨congrArg (fun z => Ending.returned (Value.int .i64 z)) (?_ : _ = timesI a b), rfl⟩
  rw [HR.out]
  have HC := HCB.out
  clear HR HCB
  rcases (show a < 0 ∨ 0 < a by omega) with sa | sa
  all_goals rcases (show b < 0 ∨ 0 < b by omega) with sb | sb
  all_goals first
   | (exfalso; omega)
   | (have pa := eq_true (show a < -a by omega)
      have pb := eq_true (show b < -b by omega)
      have da := decide_eq_true sa
      have db := decide_eq_true sb
      have ma : max a (-a) = -a := by omega
      have mb : max b (-b) = -b := by omega
      simp only [pa, pb, da, db, ma, mb, if_false, Bool.not_true, beq_self_eq_true, ne_eq, reduceCtorEq, not_true_eq_false] at * <;> first
       | (unfold capI topI at HC ⊢; rw [if_pos (by assumption)] at HC ⊢; unfold wrap64; omega)
       | (unfold capI topI at HC ⊢; rw [if_neg (Int.not_le.mpr (by assumption))]))
   | (have pa := eq_true (show a < -a by omega)
      have pb := eq_false (show ¬ b < -b by omega)
      have da := decide_eq_true sa
      have db := decide_eq_false (show ¬ b < 0 by omega)
      have ma : max a (-a) = -a := by omega
      have mb : max b (-b) = b := by omega
      simp only [pa, pb, da, db, ma, mb, if_true, Bool.not_false, times_tf, ne_eq, reduceCtorEq, not_false_eq_true] at * <;> first
       | (unfold capI topI at HC ⊢; rw [if_pos (by assumption)] at HC ⊢; unfold wrap64; omega)
       | (unfold capI topI at HC ⊢; rw [if_neg (Int.not_le.mpr (by assumption))]))
   | (have pa := eq_false (show ¬ a < -a by omega)
      have pb := eq_true (show b < -b by omega)
      have da := decide_eq_false (show ¬ a < 0 by omega)
      have db := decide_eq_true sb
      have ma : max a (-a) = a := by omega
      have mb : max b (-b) = -b := by omega
      simp only [pa, pb, da, db, ma, mb, if_true, Bool.not_false, times_ft, ne_eq, reduceCtorEq, not_false_eq_true] at * <;> first
       | (unfold capI topI at HC ⊢; rw [if_pos (by assumption)] at HC ⊢; unfold wrap64; omega)
       | (unfold capI topI at HC ⊢; rw [if_neg (Int.not_le.mpr (by assumption))]))
   | (have pa := eq_false (show ¬ a < -a by omega)
      have pb := eq_false (show ¬ b < -b by omega)
      have da := decide_eq_false (show ¬ a < 0 by omega)
      have db := decide_eq_false (show ¬ b < 0 by omega)
      have ma : max a (-a) = a := by omega
      have mb : max b (-b) = b := by omega
      simp only [pa, pb, da, db, ma, mb, if_false, Bool.not_true, beq_self_eq_true, ne_eq, reduceCtorEq, not_true_eq_false] at * <;> first
       | (unfold capI topI at HC ⊢; rw [if_pos (by assumption)] at HC ⊢; unfold wrap64; omega)
       | (unfold capI topI at HC ⊢; rw [if_neg (Int.not_le.mpr (by assumption))]))
   | skip
open Go.RowKit
theorem rover52_any (a b : Int) (W : World) (ha : -topI ≤ a ∧ a ≤ topI) (hb : -topI ≤ b ∧ b ≤ topI) : Calls Tryz.prog 268 #[.int .i64 a, .int .i64 b] W fun e w' => e = .returned (.int .i64 (overI a b)) ∧ w' = W := by
 by_cases h0 : b = 0
 · subst h0
   have HV : Hid (overI a 0 = 0) := Lib.hid rfl
   clear ha hb
   go_enter Tryz.func268, Tryz.ntmps268
   go_wp2_with fail
   go_ret
   exact ⟨by rw [HV.out]; rfl, rfl⟩
 have n0 : (b == 0) = false := by simpa using h0
 have h1 : (a.tdiv b).natAbs ≤ a.natAbs := by rw [Int.natAbs_tdiv]; exact Nat.div_le_self _ _
 have h2 : (a.tdiv b * b).natAbs ≤ a.natAbs := by rw [Int.natAbs_mul, Int.natAbs_tdiv]; exact Nat.div_mul_le_self _ _
 have hw1 : IntKind.i64.wrap (a.tdiv b) = a.tdiv b := by rw [IntKind.wrap_i64]; unfold topI at ha hb; omega
 have hw2 : IntKind.i64.wrap (a.tdiv b * b) = a.tdiv b * b := by rw [IntKind.wrap_i64]; unfold topI at ha hb; omega
 have hw3 : IntKind.i64.wrap (a.tdiv b - 1) = a.tdiv b - 1 := by rw [IntKind.wrap_i64]; unfold topI at ha hb; omega
 have HV := Lib.hid (over_ref a b h0)
 clear h1 h2 ha hb
 by_cases m0 : a.tdiv b * b = a
 · have n1 : (a.tdiv b * b != a) = false := by simpa using m0
   have HV2 : Hid (overI a b = a.tdiv b) := Lib.hid (by rw [HV.out, if_neg (fun h => h.1 m0)])
   clear HV m0
   go_enter Tryz.func268, Tryz.ntmps268
   go_wp2_with fail
   go_ret
   exact ⟨by rw [HV2.out]; rfl, rfl⟩
 · have n1 : (a.tdiv b * b != a) = true := by simpa using m0
   cases sa : decide (a < 0) <;> cases sb : decide (b < 0)
   · have ga : decide (a < 0) = false := sa
     have gb : decide (b < 0) = false := sb
     have HV2 : Hid (overI a b = a.tdiv b) := Lib.hid (by rw [HV.out]; simp [m0, sa, sb])
     clear HV m0 sa sb
     go_enter Tryz.func268, Tryz.ntmps268
     go_wp2_with fail

     go_ret
     exact ⟨by rw [HV2.out]; rfl, rfl⟩
   · have ga : decide (a < 0) = false := sa
     have gb : decide (b < 0) = true := sb
     have HV2 : Hid (overI a b = a.tdiv b - 1) := Lib.hid (by rw [HV.out]; simp [m0, sa, sb])
     clear HV m0 sa sb
     go_enter Tryz.func268, Tryz.ntmps268
     go_wp2_with fail

     go_ret
     exact ⟨by rw [HV2.out]; rfl, rfl⟩
   · have ga : decide (a < 0) = true := sa
     have gb : decide (b < 0) = false := sb
     have HV2 : Hid (overI a b = a.tdiv b - 1) := Lib.hid (by rw [HV.out]; simp [m0, sa, sb])
     clear HV m0 sa sb
     go_enter Tryz.func268, Tryz.ntmps268
     go_wp2_with fail

     go_ret
     exact ⟨by rw [HV2.out]; rfl, rfl⟩
   · have ga : decide (a < 0) = true := sa
     have gb : decide (b < 0) = true := sb
     have HV2 : Hid (overI a b = a.tdiv b) := Lib.hid (by rw [HV.out]; simp [m0, sa, sb])
     clear HV m0 sa sb
     go_enter Tryz.func268, Tryz.ntmps268
     go_wp2_with fail

     go_ret
     exact ⟨by rw [HV2.out]; rfl, rfl⟩
open Go.RowKit
theorem roperate52_any (op a b : Int) (W : World) (ho : 3 ≤ op ∧ op ≤ 9) (ha : -topI ≤ a ∧ a ≤ topI) (hb : -topI ≤ b ∧ b ≤ topI) : Calls Tryz.prog 177 #[.int .i64 op, .int .i64 a, .int .i64 b] W fun e w' => e = .returned (.int .i64 (opI op a b)) ∧ w' = W := by
 have hwa : IntKind.i64.wrap (a + b) = a + b := by rw [IntKind.wrap_i64]; unfold topI at ha hb; omega
 have hws : IntKind.i64.wrap (a - b) = a - b := by rw [IntKind.wrap_i64]; unfold topI at ha hb; omega
 rcases (show op = 3 ∨ op = 4 ∨ op = 5 ∨ op = 6 ∨ op = 7 ∨ op = 8 ∨ op = 9 by omega) with rfl | rfl | rfl | rfl | rfl | rfl | rfl
 · have HE : Hid (opI 3 a b = holdI (a + b)) := Lib.hid rfl
   clear ha hb ho
   go_enter Tryz.func177, Tryz.ntmps177
   go_wp2_with fail
   refine (held_any _ _).mono ?_
   rintro e w' ⟨rfl, rfl⟩
   go_wp2_with fail
   go_ret
   exact ⟨by rw [HE.out]; rfl, rfl⟩
 · have HE : Hid (opI 4 a b = holdI (a - b)) := Lib.hid rfl
   clear ha hb ho
   go_enter Tryz.func177, Tryz.ntmps177
   go_wp2_with fail
   refine (held_any _ _).mono ?_
   rintro e w' ⟨rfl, rfl⟩
   go_wp2_with fail
   go_ret
   exact ⟨by rw [HE.out]; rfl, rfl⟩
 · have HE : Hid (opI 5 a b = timesI a b) := Lib.hid rfl
   have HA := Lib.hid ha
   have HB := Lib.hid hb
   clear ha hb ho
   go_enter Tryz.func177, Tryz.ntmps177
   go_wp2_with fail
   refine (rtimes52_any _ _ _ HA.out HB.out).mono ?_
   rintro e w' ⟨rfl, rfl⟩
   go_wp2_with fail
   go_ret
   exact ⟨by rw [HE.out]; rfl, rfl⟩
 · have HE : Hid (opI 6 a b = overI a b) := Lib.hid rfl
   have HA := Lib.hid ha
   have HB := Lib.hid hb
   clear ha hb ho
   go_enter Tryz.func177, Tryz.ntmps177
   go_wp2_with fail
   refine (rover52_any _ _ _ HA.out HB.out).mono ?_
   rintro e w' ⟨rfl, rfl⟩
   go_wp2_with fail
   go_ret
   exact ⟨by rw [HE.out]; rfl, rfl⟩
 · have HE : Hid (opI 7 a b = min a b) := Lib.hid rfl
   clear ha hb ho
   go_enter Tryz.func177, Tryz.ntmps177
   go_wp2_with fail
   all_goals
    go_ret
    refine ⟨congrArg (fun z => Ending.returned (Value.int .i64 z)) (?_ : _ = opI 7 a b), rfl⟩
    all_goals (try rw [HE.out])
    all_goals (try omega)
 · have HE : Hid (opI 8 a b = max a b) := Lib.hid rfl
   clear ha hb ho
   go_enter Tryz.func177, Tryz.ntmps177
   go_wp2_with fail
   all_goals
    go_ret
    refine ⟨congrArg (fun z => Ending.returned (Value.int .i64 z)) (?_ : _ = opI 8 a b), rfl⟩
    all_goals (try rw [HE.out])
    all_goals (try omega)
 · cases c : decide (a < b)
   · have HE : Hid (opI 9 a b = 0) := Lib.hid (if_neg (of_decide_eq_false c))
     have d : decide (a < b) = false := c
     clear ha hb ho c
     go_enter Tryz.func177, Tryz.ntmps177
     go_wp2_with fail
     go_ret
     exact ⟨by rw [HE.out]; rfl, rfl⟩
   · have HE : Hid (opI 9 a b = 1) := Lib.hid (if_pos (of_decide_eq_true c))
     have d : decide (a < b) = true := c
     clear ha hb ho c
     go_enter Tryz.func177, Tryz.ntmps177
     go_wp2_with fail
     go_ret
     exact ⟨by rw [HE.out]; rfl, rfl⟩
open Go.RowKit
def RetStr1 (k : Nat) (W : World) (e : Ending) (w' : World) : Prop := ∃ s : ByteArray, e = .returned (.string s) ∧ s.size ≤ k ∧ w' = W
theorem rsign52_any (op : Int) (W : World) : Calls Tryz.prog 260 #[.int .i64 op] W (RetStr1 1 W) := by
 by_cases h : op = 3 ∨ op = 4 ∨ op = 5 ∨ op = 6
 · rcases h with rfl | rfl | rfl | rfl
   all_goals
    go_enter Tryz.func260, Tryz.ntmps260
    go_wp2_with fail
    go_ret
    exact ⟨_, rfl, by decide, rfl⟩
 · have n3 : (op == 3) = false := by simp; omega
   have n4 : (op == 4) = false := by simp; omega
   have n5 : (op == 5) = false := by simp; omega
   have n6 : (op == 6) = false := by simp; omega
   clear h
   go_enter Tryz.func260, Tryz.ntmps260
   go_wp2_with fail
   go_ret
   exact ⟨_, rfl, by decide, rfl⟩
def nameS : List ByteArray := [⟨#[112, 108, 97, 99, 101]⟩, ⟨#[115, 111, 108, 118, 101, 114, 115]⟩, ⟨#[108, 101, 118, 101, 108]⟩, ⟨#[99, 108, 117, 101, 115]⟩, ⟨#[116, 114, 105, 101, 115]⟩]
def encStr (s : ByteArray) : List Value := [.string s]
theorem strsN_alloc (W : World) (l : List ByteArray) (t : TypeId) (h : l.length ≤ maxLen) : SL encStr 1 (W.alloc (.cells (l.map Value.string).toArray t)) (some ⟨W.heap.size, 0, none⟩) l.length l.length l where
 len := rfl
 cap := Nat.le_refl _
 mx := h
 at' := fun _ => ⟨_, 0, rfl, by simp⟩
 cell := fun b o e i x hx j v hv => by
  injection e with e
  injection e with e1 e2
  subst e1; subst e2
  have hb := Box.new W (l.map Value.string).toArray t
  have hj : j = 0 ∧ v = .string x := by
   cases j with
   | zero => simp [encStr] at hv; exact ⟨rfl, hv.symm⟩
   | succ j => simp [encStr] at hv
  obtain ⟨rfl, rfl⟩ := hj
  rw [show 0 + i * 1 + 0 = i by omega, hb.cell i]
  simp [hx]
theorem rinputs_any (W : World) : Calls Tryz.prog 258 #[] W fun e w' => (∃ a, e = .returned (.slice a 5 5) ∧ SL encStr 1 w' a 5 5 nameS) ∧ Below W.heap.size W w' := by
 go_enter Tryz.func258, Tryz.ntmps258
 go_wp2_with fail
 go_ret
 exact ⟨⟨_, rfl, strsN_alloc W nameS _ (by decide)⟩, (Below.refl _ _).alloc (Nat.le_refl _) _⟩
open Go.RowKit
theorem conv1 (w : World) (x : Int) : (convert 46 9 (.slice (some ⟨w.heap.size, 0, none⟩) 1 1)).run Tryz.prog (w.alloc (.cells #[.int .u8 x] 5)) = .ok (.string (strOfNums [x])) (w.alloc (.cells #[.int .u8 x] 5)) := by
 refine run_convert_bytes_arg _ 46 5 Tryz.underlying46 Tryz.underlying5 w.heap.size 0 1 1 [x] rfl (fun i hi => ?_) 9 Tryz.underlying9
 obtain rfl : i = 0 := by omega
 have hb := Box.new w #[.int .u8 x] 5
 rw [Nat.zero_add, hb.cell 0]
 rfl
set_option maxRecDepth 20000 in
set_option maxHeartbeats 4000000 in
theorem rdecimal_any (n : Int) (W : World) (hn : -9223372036854775808 ≤ n ∧ n ≤ 9223372036854775807) : Calls Tryz.prog 257 #[.int .i64 n] W fun e w' => (∃ s : ByteArray, e = .returned (.string s) ∧ s.size ≤ 20) ∧ Below W.heap.size W w' := by
 have hr : (n.tmod 10).natAbs < 10 := by rw [Int.natAbs_tmod]; exact Nat.mod_lt _ (by decide)
 have hw : IntKind.i64.wrap (n.tmod 10) = n.tmod 10 := by rw [IntKind.wrap_i64]; omega
 have hw2 : IntKind.i64.wrap (48 + n.tmod 10) = 48 + n.tmod 10 := by rw [IntKind.wrap_i64]; omega
 go_enter Tryz.func257, Tryz.ntmps257
 go_wp2_with fail
 rw [conv1]
 go_wp2_with fail
 go_loopw [0, 3] (fun m t wr => ∃ (k : Int) (S : ByteArray), m = .int .i64 k ∧ t = .string S ∧ -9223372036854775808 ≤ k ∧ k ≤ 9223372036854775807 ∧ 1 ≤ S.size ∧ S.size ≤ 20 ∧ k < 10 ^ (20 - S.size) ∧ Below W.heap.size W wr) (fun m _ _ => (intOf m).toNat)
 case atStart => exact ⟨n, _, rfl, rfl, hn.1, hn.2, Nat.le_refl _, by rw [strOfNums_size]; simp, by rw [strOfNums_size]; simp; omega, (Below.refl _ _).alloc (Nat.le_refl _) _⟩
 case round =>
  obtain ⟨k, S, rfl, rfl, hk1, hk2, hS1, hS2, hkS, hB⟩ := hrel
  clear hr hw hw2 hn
  by_cases hlt : k < 10
  · have HS := Lib.hid hS2
    clear hkS hS2 hS1
    go_wp2_with fail
    go_ret
    exact ⟨⟨_, rfl, HS.out⟩, hB⟩
  have hS3 : S.size < 20 := by
   rcases Nat.lt_or_ge S.size 20 with h | h
   · exact h
   · rw [show 20 - S.size = 0 by omega] at hkS
     simp at hkS; omega
  have hd : k.tdiv 10 = k / 10 := Int.tdiv_eq_ediv_of_nonneg (by omega)
  have hwd : IntKind.i64.wrap (k.tdiv 10) = k.tdiv 10 := by rw [IntKind.wrap_i64, hd]; omega
  have hr : ((k.tdiv 10).tmod 10).natAbs < 10 := by rw [Int.natAbs_tmod]; exact Nat.mod_lt _ (by decide)
  have hw : IntKind.i64.wrap ((k.tdiv 10).tmod 10) = (k.tdiv 10).tmod 10 := by rw [IntKind.wrap_i64]; omega
  have hw2 : IntKind.i64.wrap (48 + (k.tdiv 10).tmod 10) = 48 + (k.tdiv 10).tmod 10 := by rw [IntKind.wrap_i64]; omega
  have HKS : Hid (k.tdiv 10 < 10 ^ (20 - (S.size + 1))) := Lib.hid (by
   rw [hd]
   rw [show 20 - S.size = (20 - (S.size + 1)) + 1 by omega, Int.pow_succ] at hkS
   exact Int.ediv_lt_of_lt_mul (by decide) hkS)
  have hlt2 : ¬ k < 10 := hlt
  have HD := Lib.hid hd
  have HB3 : Hid (Below W.heap.size W (wr.alloc (.cells #[.int .u8 ((48 + (k.tdiv 10).tmod 10) % 256)] 5))) := Lib.hid (hB.alloc hB.size _)
  clear hr hkS hd
  go_wp2_with fail
  have HZ : Hid (∀ x : Int, (strOfNums [x]).size = 1) := Lib.hid fun x => strOfNums_size _
  rw [conv1]
  go_wp2_with fail
  case isTrue =>
   exfalso
   simp only [HZ.out] at *
   omega
  go_roundw
  case rel => exact ⟨k.tdiv 10, _, by go_num, rfl, by rw [HD.out]; omega, by rw [HD.out]; omega, by simp [ByteArray.size_append, strOfNums_size], by simp [ByteArray.size_append, strOfNums_size]; omega, by rw [ByteArray.size_append, strOfNums_size, Nat.add_comm]; exact HKS.out, HB3.out⟩
  case measure => simp [intOf, HD.out]; omega
open Go.RowKit
theorem info_strR : (Tryz.prog.info? 9).map (fun i => (i.zero, i.size, i.bytes)) = some (some (.string ⟨#[]⟩), 1, 16) := by kernel_rfl
def lenV : Value → Nat
 | .slice _ n _ => n
 | _ => 0
def sumV (us : List Value) : Nat := (us.map lenV).sum
theorem sumV_step {us : List Value} {k : Nat} {u : Value} (h : us[k]? = some u) : sumV (us.take (k + 1)) = sumV (us.take k) + lenV u := by
 unfold sumV
 rw [List.take_add_one, h, List.map_append, List.sum_append]
 simp
theorem sumV_le (us : List Value) (k : Nat) : sumV (us.take k) ≤ sumV us := by
 have h : sumV us = sumV (us.take k) + sumV (us.drop k) := by
  unfold sumV
  rw [← List.sum_append, ← List.map_append, List.take_append_drop]
 omega
def RetTx (W : World) (k : Nat) (e : Ending) (w' : World) : Prop := ∃ a n c S, e = .returned (.slice a n c) ∧ SL encStr 1 w' a n c S ∧ n ≤ k ∧ Below W.heap.size W w'
theorem txt_cells {w : World} {a : Option Addr} {n c : Nat} {l : List ByteArray} (h : SL encStr 1 w a n c l) : ∀ ad, a = some ad → ∀ j u, (l.map Value.string)[j]? = some u → w.cell? (ad.add j) = some u := by
 intro ad e j u hu
 rw [List.getElem?_map] at hu
 obtain ⟨x, hx, rfl⟩ := Option.map_eq_some_iff.1 hu
 have hj := h.lt hx
 obtain ⟨b, o, e2, _⟩ := h.at' (by omega)
 rw [e] at e2
 injection e2 with e2
 subst e2
 subst e
 rw [Addr.add_mid]
 have := h.cell b o rfl j x hx 0 (.string x) rfl
 rw [show o + j * 1 + 0 = o + j by omega] at this
 exact this
theorem txt_own {w : World} {base n c : Nat} {e : TypeId} {a : Option Addr} {l : List ByteArray} (h : w.ownsRow base e 1 (.slice a n c) n (l.map Value.string)) (hn : l.length = n) : SL encStr 1 w a n c l := by
 obtain ⟨a', c', e1, h1, h2⟩ := own_slice h
 injection e1 with x y z
 subst x z
 obtain ⟨h3, h4⟩ := own_addr h
 refine ⟨hn, h1, h2, h3, fun b o e i x hx j v hv => ?_⟩
 have hi : i < n := by rw [← hn]; exact (List.getElem?_eq_some_iff.1 hx).1
 have hj : j = 0 ∧ v = .string x := by
  cases j with
  | zero => simp [encStr] at hv; exact ⟨rfl, hv.symm⟩
  | succ j => simp [encStr] at hv
 obtain ⟨rfl, rfl⟩ := hj
 rw [show o + i * 1 + 0 = o + i by omega, h4 b o e i hi, List.getElem?_map, hx]
 rfl
theorem txt_one (l : List ByteArray) : ∀ u ∈ l.map Value.string, u.oneCell' = true := fun u hu => by
 obtain ⟨x, _, rfl⟩ := List.mem_map.1 hu; rfl
set_option maxRecDepth 20000 in
set_option maxHeartbeats 4000000 in
theorem rtext_any (b n c : Nat) (us : List Value) (L : Nat) (W : World) (hul : us.length = n) (hb : b < W.heap.size) (hc : ∀ (i : Nat) (u : Value), us[i]? = some u → W.cell? ⟨b, i, none⟩ = some u) (hT : ∀ (i : Nat) (u : Value), us[i]? = some u → ∃ ai ni ci S, u = .slice ai ni ci ∧ SL encStr 1 W ai ni ci S) (hL : sumV us ≤ L) (hn : n ≤ 7) (hL2 : L ≤ 100000) :
 Calls Tryz.prog 259 #[.slice (some ⟨b, 0, none⟩) n c] W (RetTx W L) := by
 obtain ⟨is, his, hzs0, hzs1, hzs2⟩ := info_parts info_strR
 have HUL := Lib.hid hul
 have HC := Lib.hid hc
 have HT := Lib.hid hT
 have HSL := Lib.hid hL
 clear hul hc hT hL
 go_enter Tryz.func259, Tryz.ntmps259
 go_wp2_with fail
 go_loopw [3, 4] (fun u i wr => ∃ (k : Nat) (S : List ByteArray), i = .int .i64 k ∧ k ≤ n ∧ wr.ownsRow W.heap.size 9 1 u S.length (S.map Value.string) ∧ S.length ≤ sumV (us.take k) ∧ Below W.heap.size W wr) (fun _ i _ => n - (intOf i).toNat)
 case atStart => exact ⟨0, [], rfl, by omega, World.ownsRow_nil _ _ _ _, by simp, Below.refl _ _⟩
 case round =>
  obtain ⟨k, S, rfl, hk, hO, hS, hB⟩ := hrel
  have s0 : (0 : Int) ≤ (k : Int) := by omega
  have hsl := sumV_le us k
  by_cases hlt : k < n
  rotate_left
  · obtain rfl : n = k := by omega
    have HSS : Hid (S.length ≤ L) := Lib.hid (by have := HSL.out; omega)
    have HO := Lib.hid hO
    clear hO hS hsl
    go_wp2_with fail
    go_ret
    obtain ⟨a', c', rfl, _, _⟩ := own_slice HO.out
    exact ⟨_, _, _, S, rfl, txt_own HO.out rfl, HSS.out, hB⟩
  have s1 : (k : Int) < (n : Int) := by omega
  obtain ⟨u, hu⟩ : ∃ u, us[k]? = some u := ⟨_, List.getElem?_eq_getElem (by rw [HUL.out]; exact hlt)⟩
  obtain ⟨xa, xn, xc, X, rfl, hX⟩ := HT.out k u hu
  have e0 := (hB.cell (p := ⟨b, k, none⟩) hb).trans (HC.out k _ hu)
  have hst := sumV_step hu
  have hs2 := sumV_le us (k + 1)
  have hLS := HSL.out
  have hlv : lenV (.slice xa xn xc) = xn := rfl
  rw [hlv] at hst
  have hX2 := hX.below hB
  have HXN : Hid (xa = none → xn = 0) := Lib.hid fun h => by
   rcases Nat.eq_zero_or_pos xn with h0 | h0
   · exact h0
   · obtain ⟨b, o, e, _⟩ := hX2.at' h0
     rw [e] at h; cases h
  have HXM : Hid ((X.map Value.string).length = xn * 1) := Lib.hid (by rw [List.length_map, hX2.len]; omega)
  have HXC := Lib.hid (txt_cells hX2)
  have HXL := Lib.hid hX2.len
  have hol := hO.lt
  have hsz := hB.size
  obtain ⟨N, hN⟩ : ∃ N, S.length = N := ⟨_, rfl⟩
  have HN := Lib.hid hN
  rw [hN] at hO hS
  have hNb : N + xn ≤ 100000 := by omega
  have HSN : Hid (N + xn ≤ sumV (us.take (k + 1))) := Lib.hid (by omega)
  have HB := Lib.hid hB
  obtain ⟨av, cv, rfl, _, _⟩ := own_slice hO
  obtain ⟨wo, hwo⟩ : ∃ wo, wo = wr := ⟨_, rfl⟩
  have HOL := Lib.hid hol
  clear hX hX2 hst hs2 hLS hlv hN hS hsl hu hol
  go_wp2_with (first | (at_builtin; (refine wpList_append_any rfl _ _ 173 rfl W.heap.size 9 is _ 1 16 Tryz.underlying173 his hzs0 hzs1 hzs2 rfl (by decide) (.slice av N cv) N _ hO rfl xa xn xc (X.map Value.string) rfl HXN.out HXM.out HXC.out (txt_one X) (by unfold maxLen; omega) (by omega) (by omega) ?_); intro v1 w4 h1 g1 f1))
  go_roundw
  case rel => exact ⟨k + 1, S ++ X, by go_num, by omega, by rw [List.length_append, HN.out, HXL.out, List.map_append]; exact h1, by rw [List.length_append, HN.out, HXL.out]; exact HSN.out, HB.out.grown g1 hsz (fun q e => (HOL.out q e).1)⟩
  case measure => simp [intOf]; omega
open Go.RowKit
structure Pe where
 cmp : Bool
 a : Option Addr
 n : Nat
 c : Nat
def encPe (p : Pe) : List Value := [.bool p.cmp, .slice p.a p.n p.c]
def Prts (w : World) (a : Option Addr) (n c : Nat) (st : List Bool) (T : Nat) : Prop :=
 ∃ ps : List Pe, SL encPe 2 w a n c ps ∧ ps.map (·.cmp) = st ∧ (∀ p ∈ ps, ∃ S, SL encStr 1 w p.a p.n p.c S) ∧ (ps.map (·.n)).sum ≤ T
def RPuC : Prop := ∀ (a : Option Addr) (n c : Nat) (st : List Bool) (T : Nat) (x : Wd) (W : World), Prts W a n c st T → n ≤ 100 → T ≤ 1000 → -9223372036854775808 ≤ x.n ∧ x.n ≤ 9223372036854775807 →
 Calls Tryz.prog 164 #[.slice a n c, .agg #[.int .i64 x.op, .int .i64 x.n]] W fun e w' => ∃ a' n' c', e = .returned (.tuple #[.slice a' n' c', .bool (pushB st x).isSome]) ∧ Below W.heap.size W w' ∧ ∀ st', pushB st x = some st' → Prts w' a' n' c' st' (T + 6) ∧ n' ≤ n + 1
theorem stBr_none {l : List Wd} {k : Nat} {x : Wd} {st : List Bool} (hx : l[k]? = some x) (h : stB l [] = stB (l.drop k) st) (hp : pushB st x = none) : okW l = false := by
 have h2 : stB l [] = none := by
  rw [h, List.drop_eq_getElem_cons (List.getElem?_eq_some_iff.1 hx).1, (List.getElem?_eq_some_iff.1 hx).2]
  simp only [stB, hp]
 unfold okW
 rw [h2]; simp
theorem stBr_some {l : List Wd} {k : Nat} {x : Wd} {st st' : List Bool} (hx : l[k]? = some x) (h : stB l [] = stB (l.drop k) st) (hp : pushB st x = some st') : stB l [] = stB (l.drop (k + 1)) st' := by
 rw [h, List.drop_eq_getElem_cons (List.getElem?_eq_some_iff.1 hx).1, (List.getElem?_eq_some_iff.1 hx).2]
 simp only [stB, hp]
def oneB : List Bool → Bool
 | [c] => !c
 | _ => false
theorem okW_refs {l : List Wd} {st : List Bool} (hl : l.length ≤ 256) (h : stB l [] = stB (l.drop l.length) st) : okW l = oneB st := by
 have h2 : stB l [] = some st := by rw [h, List.drop_length]; rfl
 unfold okW
 rw [h2, decide_eq_true hl, Bool.true_and]
 clear h h2
 rcases st with _ | ⟨c, _ | ⟨d, st⟩⟩ <;> rfl
set_option maxRecDepth 20000 in
set_option maxHeartbeats 4000000 in
theorem rwhole_any (hpu : RPuC) (a : Option Addr) (n c : Nat) (l : List Wd) (W : World) (h0 : SL encW 2 W a n c l) (hn : n ≤ 30) (hwr : WdR l) :
 Calls Tryz.prog 115 #[.slice a n c] W fun e w' => (∃ v, e = .returned (.tuple #[v, .bool (okW l)])) ∧ Below W.heap.size W w' := by
 have HL := Lib.hid h0.len
 have HWR := Lib.hid hwr
 clear hwr
 have n1 : decide ((256 : Int) < (n : Int)) = false := by simp; omega
 have n2 : decide (256 < n) = false := by simp; omega
 go_enter Tryz.func115, Tryz.ntmps115
 go_wp2_with fail
 go_loopw [4, 5] (fun u i wr => ∃ (k pn pc : Nat) (pa : Option Addr) (st : List Bool), u = .slice pa pn pc ∧ i = .int .i64 k ∧ k ≤ n ∧ pn ≤ k ∧ Hid (Prts wr pa pn pc st (6 * k)) ∧ Hid (stB l [] = stB (l.drop k) st) ∧ Below W.heap.size W wr) (fun _ i _ => n - (intOf i).toNat)
 case atStart => exact ⟨0, 0, 0, none, [], rfl, rfl, by omega, by omega, Lib.hid ⟨[], SL.nil _ _ _, rfl, (fun p hp => by cases hp), by simp⟩, Lib.hid rfl, Below.refl _ _⟩
 case round =>
  obtain ⟨k, pn, pc, pa, st, rfl, rfl, hk, hpk, HP, HS, hB⟩ := hrel
  have s0 : (0 : Int) ≤ (k : Int) := by omega
  by_cases hlt : k < n
  rotate_left
  · obtain rfl : n = k := by omega
    obtain ⟨ps, hps, hst, hT, _⟩ := HP.out
    have HO := Lib.hid (okW_refs (l := l) (st := st) (by rw [HL.out]; omega) (by rw [HL.out]; exact HS.out))
    have hpl := hps.len
    by_cases c1 : pn = 1
    rotate_left
    · have m1 : ((pn : Int) != 1) = true := by simp; omega
      have HR : Hid (okW l = false) := Lib.hid (by
       rw [HO.out, ← hst]
       rcases ps with _ | ⟨p, _ | ⟨q, ps⟩⟩
       · rfl
       · exact absurd hpl.symm (by simpa using c1)
       · rfl)
      clear HO hps hst hT hpl HP c1 HS
      go_wp2_with fail
      refine bodyPost_ret (v := .tuple #[.slice none 0 0, .bool false]) (by simp [results, Tryz.results115, go_sem]) rfl ⟨⟨_, by rw [HR.out]⟩, hB⟩
    subst c1
    obtain ⟨b, o, rfl, hb⟩ := hps.at' (by omega)
    obtain ⟨p, hp⟩ := hps.get (i := 0) (by omega)
    have hpe : ps = [p] := by
     rcases ps with _ | ⟨q, _ | ⟨r, ps⟩⟩
     · simp at hpl
     · simpa using hp
     · simp at hpl
    have e0 := hps.cell b o rfl 0 p hp 0 _ rfl
    have e1 := hps.cell b o rfl 0 p hp 1 _ rfl
    rw [show o + 0 * 2 + 0 = o by omega] at e0
    rw [show o + 0 * 2 + 1 = o + 1 by omega] at e1
    have HR : Hid (okW l = !p.cmp) := Lib.hid (by rw [HO.out, ← hst, hpe]; rfl)
    clear HO hps hst hT hpl HP HS hp hpe
    cases hc : p.cmp
    · have HR2 : Hid (okW l = true) := Lib.hid (by rw [HR.out, hc]; rfl)
      rw [hc] at e0
      go_wp2_with fail
      refine bodyPost_ret (v := .tuple #[.slice p.a p.n p.c, .bool true]) (by simp [results, Tryz.results115, go_sem]) rfl ⟨⟨_, by rw [HR2.out]⟩, hB⟩
    · have HR2 : Hid (okW l = false) := Lib.hid (by rw [HR.out, hc]; rfl)
      rw [hc] at e0
      go_wp2_with fail
      refine bodyPost_ret (v := .tuple #[.slice none 0 0, .bool false]) (by simp [results, Tryz.results115, go_sem]) rfl ⟨⟨_, by rw [HR2.out]⟩, hB⟩
  have s1 : (k : Int) < (n : Int) := by omega
  obtain ⟨b, o, rfl, hb⟩ := h0.at' (by omega)
  obtain ⟨x, hx⟩ := h0.get hlt
  have e0 := (h0.below hB).cell b o rfl k x hx 0 _ rfl
  have e1 := (h0.below hB).cell b o rfl k x hx 1 _ rfl
  rw [show o + k * 2 + 0 = o + k * 2 by omega] at e0
  have HPU := Lib.hid (hpu pa pn pc st (6 * k) x wr HP.out (by omega) (by omega) (HWR.out x (List.mem_of_getElem? hx)))
  have HX := Lib.hid hx
  have HB := Lib.hid hB
  clear hx hB hpu
  go_wp2_with fail
  refine HPU.out.mono ?_
  rintro e w2 ⟨a', n', c', rfl, hB2, hS⟩
  have HB2 := Lib.hid (HB.out.on hB2)
  obtain ⟨o', ho'⟩ : ∃ o', pushB st x = o' := ⟨_, rfl⟩
  rw [ho'] at hS ⊢
  cases o' with
  | none =>
   have HR : Hid (okW l = false) := Lib.hid (stBr_none HX.out HS.out ho')
   clear hS hB2 ho'
   go_wp2_with fail
   refine bodyPost_ret (v := .tuple #[.slice none 0 0, .bool false]) (by simp [results, Tryz.results115, go_sem]) rfl ⟨⟨_, by rw [HR.out]⟩, HB2.out⟩
  | some st' =>
   obtain ⟨hP2, hn2⟩ := hS st' rfl
   have HP2 := Lib.hid hP2
   have HS2 := Lib.hid (stBr_some HX.out HS.out ho')
   clear hS hB2 ho' hP2
   go_wp2_with fail
   go_roundw
   case rel => exact ⟨k + 1, n', c', a', st', rfl, by go_num, by omega, by omega, HP2, HS2, HB2.out⟩
   case measure => simp [intOf]; omega
open Go.RowKit
theorem rptc_any (hpu : RPuC) : RPtC := by
 intro a n c l W h0 hn hwr
 have HPU := Lib.hid (rwhole_any hpu a n c l W h0 hn hwr)
 have HE : Hid (ptE l = if okW l then 0 else 520) := Lib.hid rfl
 clear hpu hwr
 go_enter Tryz.func73, Tryz.ntmps73
 go_wp2_with fail
 refine HPU.out.mono ?_
 rintro e w1 ⟨⟨v, rfl⟩, hB⟩
 cases hk : okW l
 · have HR : Hid (ptE l = 520) := Lib.hid (by rw [HE.out, hk]; rfl)
   go_wp2_with fail
   go_ret
   exact ⟨by rw [HR.out]; rfl, hB⟩
 · have HR : Hid (ptE l = 0) := Lib.hid (by rw [HE.out, hk]; rfl)
   go_wp2_with fail
   go_ret
   exact ⟨by rw [HR.out]; rfl, hB⟩
end Go.Proofs.YtehoidohallfcaaGreatDoor
