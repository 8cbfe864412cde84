/- catalogue.Check at the empty catalogue. -/
import Derived.Test.YtehoidohallfcaaGreatDoorRuH
namespace Go.Proofs.YtehoidohallfcaaGreatDoor
open Go.RowKit
theorem Box.g4 {w : World} {B : Nat} {v0 v1 v2 v3 : Value} {t : TypeId} (h : Box w B #[v0, v1, v2, v3] t) : w.cell? ⟨B, 0, none⟩ = some v0 ∧ w.cell? ⟨B, 1, none⟩ = some v1 ∧ w.cell? ⟨B, 2, none⟩ = some v2 ∧ w.cell? ⟨B, 3, none⟩ = some v3 :=
 ⟨by simpa using h.cell 0, by simpa using h.cell 1, by simpa using h.cell 2, by simpa using h.cell 3⟩
theorem new_empty (W : World) : Calls Tryz.prog 98 #[.slice none 0 0, .slice none 0 0] W fun e w' => e = .returned (.tuple #[.agg #[.slice none 0 0, .slice none 0 0, .slice none 0 0, .slice none 0 0], .int .i64 0]) ∧ Below W.heap.size W w' := by
 go_enter Tryz.func98, Tryz.ntmps98
 go_wp2_with fail
 go_loopw [22] (fun i wr => i = .int .i64 0 ∧ wr = W.alloc (.cells #[.slice none 0 0, .slice none 0 0, .slice none 0 0, .slice none 0 0] 69)) (fun _ _ => 0)
 case atStart => exact ⟨rfl, rfl⟩
 case round =>
  obtain ⟨rfl, rfl⟩ := hrel
  go_wp2_with fail
  refine bodyPost_ret (v := .tuple #[.agg #[.slice none 0 0, .slice none 0 0, .slice none 0 0, .slice none 0 0], .int .i64 0]) (by simp [results, Tryz.results98, go_sem]) rfl ?_
  exact ⟨rfl, al0 _ _ _⟩
theorem fidx_empty (v : Value) (W : World) : Calls Tryz.prog 187 #[.slice none 0 0, v] W fun e w' => e = .returned (.int .i64 (-1)) ∧ w' = W := by
 go_enter Tryz.func187, Tryz.ntmps187
 go_wp2_with fail
 go_loopw [8] (fun i wr => i = .int .i64 0 ∧ wr = W) (fun _ _ => 0)
 case atStart => exact ⟨rfl, rfl⟩
 case round =>
  obtain ⟨rfl, rfl⟩ := hrel
  go_wp2_with fail
  go_ret
  exact ⟨rfl, rfl⟩
theorem fcont_empty (v : Value) (W : World) : Calls Tryz.prog 128 #[.slice none 0 0, v] W fun e w' => e = .returned (.bool false) ∧ w' = W := by
 go_enter Tryz.func128, Tryz.ntmps128
 go_wp2_with (refine (fidx_empty _ _).mono ?_; rintro e w' ⟨rfl, rfl⟩)
 go_ret
 exact ⟨rfl, rfl⟩
theorem facts_empty (W : World) : Calls Tryz.prog 99 #[.slice none 0 0] W fun e w' => e = .returned (.int .i64 0) ∧ w' = W := by
 go_enter Tryz.func99, Tryz.ntmps99
 go_wp2_with (refine (fcont_empty _ _).mono ?_; rintro e w' ⟨rfl, rfl⟩)
 go_loopw [12] (fun i wr => i = .int .i64 0 ∧ wr = w') (fun _ _ => 0)
 case atStart => exact ⟨rfl, rfl⟩
 case round =>
  obtain ⟨rfl, rfl⟩ := hrel
  go_wp2_with fail
  go_ret
  exact ⟨rfl, rfl⟩
theorem index_empty (W : World) : Calls Tryz.prog 101 #[.agg #[.slice none 0 0, .slice none 0 0, .slice none 0 0, .slice none 0 0]] W fun e w' => e = .returned (.map (some (W.heap.size + 1))) ∧ Below W.heap.size W w' := by
 have hx := (Box.new W #[.slice none 0 0, .slice none 0 0, .slice none 0 0, .slice none 0 0] 69).alloc (.map #[] 0)
 obtain ⟨d0, d1, d2, d3⟩ := hx.g4
 have hmk := fun w => run_makeMap (P := Tryz.prog) 140 w
 have hB : Below W.heap.size W ((W.alloc (.cells #[.slice none 0 0, .slice none 0 0, .slice none 0 0, .slice none 0 0] 69)).alloc (.map #[] 0)) := (al0 _ _ _).alloc (by simp) _
 go_enter Tryz.func101, Tryz.ntmps101
 go_wp2_with fail
 go_loopw [18] (fun i wr => i = .int .i64 0 ∧ wr = (W.alloc (.cells #[.slice none 0 0, .slice none 0 0, .slice none 0 0, .slice none 0 0] 69)).alloc (.map #[] 0)) (fun _ _ => 0)
 case atStart => exact ⟨rfl, rfl⟩
 case round =>
  obtain ⟨rfl, rfl⟩ := hrel
  go_wp2_with fail
  go_loopw [113] (fun i wr => i = .int .i64 0 ∧ wr = (W.alloc (.cells #[.slice none 0 0, .slice none 0 0, .slice none 0 0, .slice none 0 0] 69)).alloc (.map #[] 0)) (fun _ _ => 0)
  case atStart => exact ⟨rfl, rfl⟩
  case round =>
   obtain ⟨rfl, rfl⟩ := hrel
   go_wp2_with fail
   go_ret
   exact ⟨rfl, hB⟩
end Go.Proofs.YtehoidohallfcaaGreatDoor
/- catalogue.Check and rulings.Check at the empty catalogue. -/
namespace Go.Proofs.YtehoidohallfcaaGreatDoor
open Go.RowKit
set_option maxRecDepth 20000 in
theorem catchO_idle (n : Nat) (p q : Addr) (w : World) : CallsDIn Fence.wide n Tryz.prog 100 #[.pointer (some p), .pointer (some q)] .returning w fun e u' w' => e = .returned (.tuple #[]) ∧ u' = .returning ∧ w' = w := by
 refine callsDIn_of_wpSIn Tryz.func100 rfl trivial fun c₀ cs hu => ?_
 simp only [Tryz.ntmps100, List.size_toArray, List.length_cons, List.length_nil, Nat.reduceAdd, Nat.reduceSub, Array.replicate_succ, Array.replicate_zero, List.push_toArray, List.append_toArray, List.nil_append, List.cons_append]
 apply wpSIn_seq
 apply wpSIn_region
 simp [wpOpsSIn, go_sem, recoverD, hu, Exit.thenS, Fence.wide]
 refine wpSIn_of_wpIn rfl (wpIn_wide.2 ?_)
 go_wp2_with fail
 refine ⟨rfl, .returning, by cases c₀; simp_all, _, results_none Tryz.results100 _ _ _, rfl, rfl, rfl⟩
set_option maxRecDepth 20000 in
set_option maxHeartbeats 4000000 in
theorem open_empty (W : World) : Calls Tryz.prog 60 #[.agg #[.slice none 0 0, .slice none 0 0, .slice none 0 0, .slice none 0 0]] W fun e w' => (∃ m, e = .returned (.tuple #[m, .int .i64 0])) ∧ Below W.heap.size W w' := by
 obtain ⟨hx1, hx2, hx3, hbb⟩ := box3w W #[.slice none 0 0, .slice none 0 0, .slice none 0 0, .slice none 0 0] #[.map none] #[.int .i64 0] 69 140 30
 obtain ⟨w0, hw0⟩ : ∃ w0, ((W.alloc (.cells #[.slice none 0 0, .slice none 0 0, .slice none 0 0, .slice none 0 0] 69)).alloc (.cells #[.map none] 140)).alloc (.cells #[.int .i64 0] 30) = w0 := ⟨_, rfl⟩
 rw [hw0] at hx1 hx2 hx3 hbb
 have HW0 := Lib.hid hw0
 clear hw0
 have hmf : ∀ (fn : Fn) (first cap : Array Value) (w : World), (Instr.makeFunc fn first cap).run Tryz.prog w = .ok (.func fn first cap) w := fun _ _ _ _ => rfl
 obtain ⟨d0, d1, d2, d3⟩ := hx1.g4
 refine (callsIn_wide (n := 9)).1 (callsIn_of_wp_marks Tryz.func60 rfl trivial ?_ rfl)
 simp only [Tryz.ntmps60, List.size_toArray, List.length_cons, List.length_nil, Nat.reduceAdd, Nat.reduceSub, Array.replicate_succ, Array.replicate_zero, List.push_toArray, List.append_toArray, List.nil_append, List.cons_append]
 refine wpIn_wide.2 ?_
 go_wp2_with fail
 rw [HW0.out]
 go_wp2_with fail
 refine (new_empty _).mono ?_
 rintro e w1 ⟨rfl, hB1⟩
 have hx1 := hx1.below hB1
 have hx2 := hx2.below hB1
 have hx3 := hx3.below hB1
 have hbb := hbb.on hB1
 obtain ⟨d0, d1, d2, d3⟩ := hx1.g4
 have c2 := hx2.cell 0
 have f2 := hx2.frozen 0
 have l2 := hx2.lt
 have c3 := hx3.cell 0
 have f3 := hx3.frozen 0
 have l3 := hx3.lt
 simp only [List.getElem?_toArray, List.getElem?_cons_zero] at c2 c3
 have hs3 := setCell_self hx3
 go_wp2_with fail
 refine (facts_empty _).mono ?_
 rintro e w' ⟨rfl, rfl⟩
 go_wp2_with fail
 refine (index_empty _).mono ?_
 rintro e w4 ⟨rfl, hB4⟩
 have hx2 := hx2.below hB4
 have hx3 := hx3.below hB4
 have c4 := hx2.cell 0
 have f4 := hx2.frozen 0
 have l4 := hx2.lt
 have c5 := hx3.cell 0
 have f5 := hx3.frozen 0
 have l5 := hx3.lt
 simp only [List.getElem?_toArray, List.getElem?_cons_zero] at c4 c5
 have hy2 := ((hx2.set 0 (.map (some (w'.heap.size + 1)))).setOther (a := ⟨W.heap.size + 1 + 1, 0, none⟩) (.int .i64 0) (by simp)).cell 0
 have hy3 := ((hx3.setOther (a := ⟨W.heap.size + 1, 0, none⟩) (.map (some (w'.heap.size + 1))) (by simp)).set 0 (.int .i64 0)).cell 0
 simp at hy2 hy3
 go_wp2_with fail
 refine ⟨by simp, .inr ⟨(fun h => by cases h), _, _, 100, #[.pointer (some ⟨W.heap.size + 1, 0, none⟩), .pointer (some ⟨W.heap.size + 1 + 1, 0, none⟩)], rfl, by simp [go_sem], fun _ _ => trivial, (catchO_idle _ _ _ _).mono ?_⟩⟩
 rintro e u' w11 ⟨rfl, rfl, rfl⟩
 refine ⟨.tuple #[.map (some (w'.heap.size + 1)), .int .i64 0], by simp [results, Tryz.results60, go_sem, hy2, hy3], ⟨_, rfl⟩, ?_⟩
 exact ((hbb.on hB4).setCell (by show W.heap.size ≤ W.heap.size + 1; omega) _).setCell (by show W.heap.size ≤ W.heap.size + 1 + 1; omega) _
theorem cat_empty (W : World) : Calls Tryz.prog 42 #[.agg #[.slice none 0 0, .slice none 0 0, .slice none 0 0, .slice none 0 0]] W fun e w' => e = .returned (.int .i64 0) ∧ Below W.heap.size W w' := by
 have hB := al0 W #[.slice none 0 0, .slice none 0 0, .slice none 0 0, .slice none 0 0] 69
 obtain ⟨d0, d1, d2, d3⟩ := (Box.new W #[.slice none 0 0, .slice none 0 0, .slice none 0 0, .slice none 0 0] 69).g4
 go_enter Tryz.func42, Tryz.ntmps42
 go_wp2_with fail
 refine (open_empty _).mono ?_
 rintro e w1 ⟨⟨m, rfl⟩, hB1⟩
 go_wp2_with fail
 go_ret
 exact ⟨rfl, hB.on hB1⟩
theorem chk1_any (n : Int) (B : Nat) (W : World) (hb : W.cell? ⟨B, 2, none⟩ = some (.slice none 0 0)) : Calls Tryz.prog 44 #[.int .i64 n, .pointer (some ⟨B, 0, none⟩)] W fun e w' => RetB W (.bool true) e w' := by
 by_cases hn : 0 ≤ n
 · have n1 : decide (n < 0) = false := by simpa using hn
   have n2 : decide (0 ≤ n) = true := by simpa using hn
   clear hn
   go_enter Tryz.func44, Tryz.ntmps44
   go_wp2_with fail
   go_ret
   exact ⟨rfl, Below.refl _ _⟩
 · have n1 : decide (n < 0) = true := by simpa using hn
   clear hn
   go_enter Tryz.func44, Tryz.ntmps44
   go_wp2_with fail
   go_ret
   exact ⟨rfl, Below.refl _ _⟩
set_option maxRecDepth 20000 in
set_option maxHeartbeats 4000000 in
theorem check_one (a : Option Addr) (n c : Nat) (W : World) (hI : Ints W a n c [0]) :
 Calls Tryz.prog 25 #[.agg #[.slice none 0 0, .slice none 0 0, .slice none 0 0, .slice none 0 0], .slice a n c, .agg #[.int .i64 0, .int .i64 0, .int .i64 0, .int .i64 0, .slice none 0 0]] W fun e w' => RetB W (.tuple #[.bool false, .int .i64 540]) e w' := by
 have hx1 : Box ((W.alloc (.cells #[.slice none 0 0, .slice none 0 0, .slice none 0 0, .slice none 0 0] 69)).alloc (.cells #[.int .i64 0, .int .i64 0, .int .i64 0, .int .i64 0, .slice none 0 0] 48)) W.heap.size #[.slice none 0 0, .slice none 0 0, .slice none 0 0, .slice none 0 0] 69 := (Box.new W _ _).alloc _
 have hbb : Below W.heap.size W ((W.alloc (.cells #[.slice none 0 0, .slice none 0 0, .slice none 0 0, .slice none 0 0] 69)).alloc (.cells #[.int .i64 0, .int .i64 0, .int .i64 0, .int .i64 0, .slice none 0 0] 48)) := (al0 _ _ _).alloc (by simp) _
 obtain ⟨w0, hw0⟩ : ∃ w0, (W.alloc (.cells #[.slice none 0 0, .slice none 0 0, .slice none 0 0, .slice none 0 0] 69)).alloc (.cells #[.int .i64 0, .int .i64 0, .int .i64 0, .int .i64 0, .slice none 0 0] 48) = w0 := ⟨_, rfl⟩
 rw [hw0] at hx1 hbb
 have HW0 := Lib.hid hw0
 clear hw0
 have hmf : ∀ (fn : Fn) (first cap : Array Value) (w : World), (Instr.makeFunc fn first cap).run Tryz.prog w = .ok (.func fn first cap) w := fun _ _ _ _ => rfl
 obtain ⟨d0, d1, d2, d3⟩ := hx1.g4
 go_enter Tryz.func25, Tryz.ntmps25
 go_wp2_with fail
 rw [HW0.out]
 go_wp2_with fail
 refine (cat_empty _).mono ?_
 rintro e w1 ⟨rfl, hB1⟩
 have hb1 := hbb.on hB1
 have hC := Lib.hid (int_contains 44 #[.pointer (some ⟨W.heap.size, 0, none⟩)] a n c [0] (fun _ => true) w1 (enters_of Tryz.func44 (by kernel_rfl) rfl) (hI.below hb1)
  (fun x W' hb => chk1_any x _ W' (by simpa using ((hx1.below hB1).below hb).cell 2)))
 go_wp2_with fail
 refine hC.out.mono ?_
 rintro e w2 ⟨rfl, hB2⟩
 go_wp2_with fail
 refine bodyPost_ret (v := .tuple #[.bool false, .int .i64 540]) (by simp [results, Tryz.results25, go_sem]) rfl ?_
 exact ⟨rfl, hb1.on hB2⟩
set_option maxRecDepth 20000 in
set_option maxHeartbeats 4000000 in
theorem check_two (W : World) :
 Calls Tryz.prog 25 #[.agg #[.slice none 0 0, .slice none 0 0, .slice none 0 0, .slice none 0 0], .slice none 0 0, .agg #[.int .i64 0, .int .i64 3, .int .i64 0, .int .i64 0, .slice none 0 0]] W fun e w' => RetB W (.tuple #[.bool false, .int .i64 0]) e w' := by
 have hx1 : Box ((W.alloc (.cells #[.slice none 0 0, .slice none 0 0, .slice none 0 0, .slice none 0 0] 69)).alloc (.cells #[.int .i64 0, .int .i64 3, .int .i64 0, .int .i64 0, .slice none 0 0] 48)) W.heap.size #[.slice none 0 0, .slice none 0 0, .slice none 0 0, .slice none 0 0] 69 := (Box.new W _ _).alloc _
 have hx2 := Box.new (W.alloc (.cells #[.slice none 0 0, .slice none 0 0, .slice none 0 0, .slice none 0 0] 69)) #[.int .i64 0, .int .i64 3, .int .i64 0, .int .i64 0, .slice none 0 0] 48
 rw [World.size_alloc] at hx2
 have hbb : Below W.heap.size W ((W.alloc (.cells #[.slice none 0 0, .slice none 0 0, .slice none 0 0, .slice none 0 0] 69)).alloc (.cells #[.int .i64 0, .int .i64 3, .int .i64 0, .int .i64 0, .slice none 0 0] 48)) := (al0 _ _ _).alloc (by simp) _
 obtain ⟨w0, hw0⟩ : ∃ w0, (W.alloc (.cells #[.slice none 0 0, .slice none 0 0, .slice none 0 0, .slice none 0 0] 69)).alloc (.cells #[.int .i64 0, .int .i64 3, .int .i64 0, .int .i64 0, .slice none 0 0] 48) = w0 := ⟨_, rfl⟩
 rw [hw0] at hx1 hx2 hbb
 have HW0 := Lib.hid hw0
 clear hw0
 have hmf : ∀ (fn : Fn) (first cap : Array Value) (w : World), (Instr.makeFunc fn first cap).run Tryz.prog w = .ok (.func fn first cap) w := fun _ _ _ _ => rfl
 obtain ⟨d0, d1, d2, d3⟩ := hx1.g4
 go_enter Tryz.func25, Tryz.ntmps25
 go_wp2_with fail
 rw [HW0.out]
 go_wp2_with fail
 refine (cat_empty _).mono ?_
 rintro e w1 ⟨rfl, hB1⟩
 have hb1 := hbb.on hB1
 have hC := Lib.hid (int_contains 44 #[.pointer (some ⟨W.heap.size, 0, none⟩)] none 0 0 [] (fun _ => true) w1 (enters_of Tryz.func44 (by kernel_rfl) rfl) (Ints.nil _)
  (fun x W' hb => chk1_any x _ W' (by simpa using ((hx1.below hB1).below hb).cell 2)))
 go_wp2_with fail
 refine hC.out.mono ?_
 rintro e w2 ⟨rfl, hB2⟩
 obtain ⟨f0, f1, f2, f3, f4⟩ := ((hx2.below hB1).below hB2).g5
 go_wp2_with fail
 refine bodyPost_ret (v := .tuple #[.bool false, .int .i64 0]) (by simp [results, Tryz.results25, go_sem]) rfl ?_
 exact ⟨rfl, hb1.on hB2⟩
end Go.Proofs.YtehoidohallfcaaGreatDoor
/- The examples of the chapter, reckoned. -/
namespace Go.Proofs.YtehoidohallfcaaGreatDoor
def sS : Sh := ⟨2, 2, [1, 1], [1, 1], [⟨1, 10⟩, ⟨2, 0⟩, ⟨4, 0⟩], []⟩
def sA (c p t : Int) : Rs := ⟨c, p, 1, t, t, true⟩
def sL : List Rs := [sA 0 0 3, sA 1 0 4, sA 0 1 6, sA 1 1 5]
def sW : List Rs := [{ sA 0 0 3 with rt := false }, { sA 1 0 4 with rt := false }, sA 0 1 6, sA 1 1 5]
def sT : List (Ft Value) := [⟨1, 3, 0, 0, .slice none 0 0⟩, ⟨0, 2, 0, 5, .slice none 0 0⟩]
def sF : List (Ft Value) := [⟨0, 0, 0, 0, .slice none 0 0⟩]
theorem s_1 : ruE sS sL sF 0 = 540 := by kernel_rfl
theorem s_2 : ruE sS sL sT 4 = 0 := by kernel_rfl
theorem s_3 : ruE sS sL sT 5 = 0 := by kernel_rfl
theorem s_4 : ruE sS sL sT 1024 = 1 := by kernel_rfl
theorem s_5 : ruR sS sL sF 0 = [] := by kernel_rfl
theorem s_6 : ruR sS sL sT 4 = sL := by kernel_rfl
theorem s_7 : ruR sS sL sT 5 = sW := by kernel_rfl
theorem s_8 : ruR sS sL sT 1024 = [] := by kernel_rfl
theorem s_9 : agE sS sL sT 4 = 0 := by kernel_rfl
theorem s_10 : agE sS sL sT 5 = 0 := by kernel_rfl
theorem s_11 : agR sS sL sT 4 = ⟨[1, 1], [1, 1], []⟩ := by kernel_rfl
theorem s_12 : agR sS sL sT 5 = ⟨[2, 1], [2, 1], []⟩ := by kernel_rfl
theorem s_13 : chE sS sL ([] : List (Ft Value)) 0 1023 = 0 := by kernel_rfl
theorem s_14 : chR sS sL ([] : List (Ft Value)) 0 1023 = [] := by kernel_rfl
theorem s_15 : chE sS sL sT 4 5 = 0 := by kernel_rfl
theorem s_16 : chR sS sL sT 4 5 = [⟨0, 1, 1, 2, 2, 1⟩] := by kernel_rfl
theorem s_17 : chE sS sL sT 5 4 = 1 := by kernel_rfl
theorem s_18 : chR sS sL sT 5 4 = [] := by kernel_rfl
end Go.Proofs.YtehoidohallfcaaGreatDoor
/- law54.sheet, law54.at; literal slices. -/
namespace Go.Proofs.YtehoidohallfcaaGreatDoor
open Go.RowKit
theorem SL.lit {α : Type} {enc : α → List Value} {k : Nat} (hk : ∀ x, (enc x).length = k) {w : World} {B : Nat} {cs : Array Value} {t : TypeId} {l : List α} {n : Nat} (h : Box w B cs t) (hc : cs.toList = l.flatMap enc) (hn : l.length = n) (hm : n ≤ 1000000) : SL enc k w (some ⟨B, 0, none⟩) n n l where
 len := hn
 cap := Nat.le_refl _
 mx := by unfold maxLen; omega
 at' := fun _ => ⟨B, 0, rfl, h.lt⟩
 cell := fun b o e i x hx j v hv => by
  injection e with e; injection e with e1 e2 _
  subst e1 e2
  have hj : j < k := by rw [← hk x]; exact (List.getElem?_eq_some_iff.1 hv).1
  rw [Nat.zero_add, h.cell, ← Array.getElem?_toList, hc, flat_get hk l i x hx j hj]; exact hv
theorem at_any (c p t : Int) (W : World) : Calls Tryz.prog 24 #[.int .i64 c, .int .i64 p, .int .i64 t] W fun e w' => RetB W (.agg #[.int .i64 (sA c p t).cm, .int .i64 (sA c p t).pz, .int .i64 (sA c p t).tr, .int .i64 (sA c p t).lo, .int .i64 (sA c p t).hi, .bool (sA c p t).rt]) e w' := by
 have hB := al0 W #[.int .i64 (sA c p t).cm, .int .i64 (sA c p t).pz, .int .i64 (sA c p t).tr, .int .i64 (sA c p t).lo, .int .i64 (sA c p t).hi, .bool (sA c p t).rt] 53
 obtain ⟨d0, d1, d2, d3, d4, d5⟩ := (Box.new W #[.int .i64 (sA c p t).cm, .int .i64 (sA c p t).pz, .int .i64 (sA c p t).tr, .int .i64 (sA c p t).lo, .int .i64 (sA c p t).hi, .bool (sA c p t).rt] 53).g6
 simp only [sA] at d0 d1 d2 d3 d4 d5 hB ⊢
 go_enter Tryz.func24, Tryz.ntmps24
 go_wp2_with fail
 refine bodyPost_ret (v := .agg #[.int .i64 c, .int .i64 p, .int .i64 1, .int .i64 t, .int .i64 t, .bool true]) (by simp [results, Tryz.results24, go_sem, d0, d1, d2, d3, d4, d5]) rfl ?_
 exact ⟨rfl, hB⟩
theorem box4w (W : World) (c1 c2 c3 c4 : Array Value) (t1 t2 t3 t4 : TypeId) : Box ((((W.alloc (.cells c1 t1)).alloc (.cells c2 t2)).alloc (.cells c3 t3)).alloc (.cells c4 t4)) W.heap.size c1 t1 ∧ Box ((((W.alloc (.cells c1 t1)).alloc (.cells c2 t2)).alloc (.cells c3 t3)).alloc (.cells c4 t4)) (W.heap.size + 1) c2 t2 ∧ Box ((((W.alloc (.cells c1 t1)).alloc (.cells c2 t2)).alloc (.cells c3 t3)).alloc (.cells c4 t4)) (W.heap.size + 1 + 1) c3 t3 ∧ Box ((((W.alloc (.cells c1 t1)).alloc (.cells c2 t2)).alloc (.cells c3 t3)).alloc (.cells c4 t4)) (W.heap.size + 1 + 1 + 1) c4 t4 ∧ Below W.heap.size W ((((W.alloc (.cells c1 t1)).alloc (.cells c2 t2)).alloc (.cells c3 t3)).alloc (.cells c4 t4)) := by
 obtain ⟨h1, h2, h3, h4⟩ := box3w W c1 c2 c3 t1 t2 t3
 have h5 := Box.new (((W.alloc (.cells c1 t1)).alloc (.cells c2 t2)).alloc (.cells c3 t3)) c4 t4
 rw [World.size_alloc, World.size_alloc, World.size_alloc] at h5
 exact ⟨h1.alloc _, h2.alloc _, h3.alloc _, h5, h4.alloc (by simp; omega) _⟩
set_option maxRecDepth 20000 in
theorem sheet_any (W : World) : Calls Tryz.prog 23 #[] W fun e w' => ∃ S : Sp, S.sh = sS ∧ e = .returned (.agg #[.int .i64 S.sh.cs, .int .i64 S.sh.ps, .slice S.la S.ln S.lc, .slice S.ca S.cn S.cc, .slice S.pa S.pn S.pc, .slice S.ra S.rn S.rc]) ∧ S.In w' ∧ Below W.heap.size W w' := by
 obtain ⟨h1, h2, h3, h4, hB⟩ := box4w W #[.int .i64 2, .int .i64 2, .slice (some ⟨W.heap.size + 1, 0, none⟩) 2 2, .slice (some ⟨W.heap.size + 1 + 1, 0, none⟩) 2 2, .slice (some ⟨W.heap.size + 1 + 1 + 1, 0, none⟩) 3 3, .slice none 0 0] #[.int .i64 1, .int .i64 1] #[.int .i64 1, .int .i64 1] #[.int .i64 1, .int .i64 10, .int .i64 2, .int .i64 0, .int .i64 4, .int .i64 0] 25 3 3 91
 obtain ⟨y0, y1, y2, y3, y4, y5⟩ := h1.g6
 have i1 : Ints _ (some ⟨W.heap.size + 1, 0, none⟩) 2 2 [1, 1] := ⟨rfl, Nat.le_refl _, by unfold maxLen; omega, fun _ => ⟨_, _, rfl, h2.lt⟩, fun b o e i hi => by
  injection e with e; injection e with e1 e2 _; subst e1 e2
  rw [Nat.zero_add, h2.cell]
  match i, hi with
  | 0, _ => rfl
  | 1, _ => rfl⟩
 have i2 : Ints _ (some ⟨W.heap.size + 1 + 1, 0, none⟩) 2 2 [1, 1] := ⟨rfl, Nat.le_refl _, by unfold maxLen; omega, fun _ => ⟨_, _, rfl, h3.lt⟩, fun b o e i hi => by
  injection e with e; injection e with e1 e2 _; subst e1 e2
  rw [Nat.zero_add, h3.cell]
  match i, hi with
  | 0, _ => rfl
  | 1, _ => rfl⟩
 have i3 : SL encW 2 _ (some ⟨W.heap.size + 1 + 1 + 1, 0, none⟩) 3 3 [⟨1, 10⟩, ⟨2, 0⟩, ⟨4, 0⟩] := SL.lit encW_len h4 rfl rfl (by omega)
 have I1 := Lib.hid i1
 have I2 := Lib.hid i2
 have I3 := Lib.hid i3
 clear i1 i2 i3 h1 h2 h3 h4
 go_enter Tryz.func23, Tryz.ntmps23
 go_wp2_with fail
 refine bodyPost_ret (v := .agg #[.int .i64 2, .int .i64 2, .slice (some ⟨W.heap.size + 1, 0, none⟩) 2 2, .slice (some ⟨W.heap.size + 1 + 1, 0, none⟩) 2 2, .slice (some ⟨W.heap.size + 1 + 1 + 1, 0, none⟩) 3 3, .slice none 0 0]) (by simp [results, Tryz.results23, go_sem, y0, y1, y2, y3, y4, y5]) rfl ?_
 exact ⟨⟨sS, some ⟨W.heap.size + 1, 0, none⟩, 2, 2, some ⟨W.heap.size + 1 + 1, 0, none⟩, 2, 2, some ⟨W.heap.size + 1 + 1 + 1, 0, none⟩, 3, 3, none, 0, 0⟩, rfl, rfl, ⟨I1.out, I2.out, I3.out, Ints.nil _⟩, hB⟩
end Go.Proofs.YtehoidohallfcaaGreatDoor
