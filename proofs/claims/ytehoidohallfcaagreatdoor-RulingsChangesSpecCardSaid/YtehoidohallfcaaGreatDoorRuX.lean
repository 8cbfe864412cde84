/- Contracts of rulings.day, the test of a fault, and the iterator of rulings.counting. -/
import Derived.RangeFuncNested
import Derived.RangeFuncBound
import Derived.LoopNIn
import Derived.LoopIn
import Derived.Sort.QuietIn
import Derived.Sort.MapsRangeIn
import Derived.Test.YtehoidohallfcaaGreatDoorKaX
namespace Go.Proofs.YtehoidohallfcaaGreatDoor
open Go.RowKit
attribute [local go_sem] Oper.semAt_some
theorem day_any (n : Int) (W : World) : Calls Tryz.prog 29 #[.int .i64 n] W fun e w' => e = .returned (.bool (okDay n)) ∧ W = w' := by
 by_cases h1 : 0 ≤ n
 · have n1 : decide (0 ≤ n) = true := by simpa using h1
   by_cases h2 : n < 1024
   · have n2 : decide (n < 1024) = true := by simpa using h2
     have HE : Hid (okDay n = true) := Lib.hid (by unfold okDay; rw [n1, n2]; rfl)
     clear h1 h2
     go_enter Tryz.func29, Tryz.ntmps29
     go_wp2_with fail
     go_ret
     exact ⟨ret_bool HE.out.symm, rfl⟩
   · have n2 : decide (n < 1024) = false := by simpa using h2
     have HE : Hid (okDay n = false) := Lib.hid (by unfold okDay; rw [n1, n2]; rfl)
     clear h1 h2
     go_enter Tryz.func29, Tryz.ntmps29
     go_wp2_with fail
     go_ret
     exact ⟨ret_bool HE.out.symm, rfl⟩
 · have n1 : decide (0 ≤ n) = false := by simpa using h1
   have HE : Hid (okDay n = false) := Lib.hid (by unfold okDay; rw [n1]; rfl)
   clear h1
   go_enter Tryz.func29, Tryz.ntmps29
   go_wp2_with fail
   go_ret
   exact ⟨ret_bool HE.out.symm, rfl⟩
theorem Box.g5 {w : World} {B : Nat} {v0 v1 v2 v3 v4 : Value} {t : TypeId} (h : Box w B #[v0, v1, v2, v3, v4] t) : w.cell? ⟨B, 0, none⟩ = some v0 ∧ w.cell? ⟨B, 1, none⟩ = some v1 ∧ w.cell? ⟨B, 2, none⟩ = some v2 ∧ w.cell? ⟨B, 3, none⟩ = some v3 ∧ w.cell? ⟨B, 4, none⟩ = some v4 :=
 ⟨by simpa using h.cell 0, by simpa using h.cell 1, by simpa using h.cell 2, by simpa using h.cell 3, by simpa using h.cell 4⟩
theorem wrongF_any (S : Sh) (f : Ft Value) (B : Nat) (W : World) (hb : W.cell? ⟨B, 1, none⟩ = some (.int .i64 S.ps)) :
 Calls Tryz.prog 28 #[.agg #[.int .i64 f.pz, .int .i64 f.kd, .int .i64 f.un, .int .i64 f.dy, f.gr], .pointer (some ⟨B, 0, none⟩)] W fun e w' => RetB W (.bool (!okFt S f)) e w' := by
 have hB : Below W.heap.size W (W.alloc (.cells #[.int .i64 f.pz, .int .i64 f.kd, .int .i64 f.un, .int .i64 f.dy, f.gr] 48)) := al0 _ _ _
 obtain ⟨d0, d1, d2, d3, d4⟩ := (Box.new W #[.int .i64 f.pz, .int .i64 f.kd, .int .i64 f.un, .int .i64 f.dy, f.gr] 48).g5
 have hb2 : (W.alloc (.cells #[.int .i64 f.pz, .int .i64 f.kd, .int .i64 f.un, .int .i64 f.dy, f.gr] 48)).cell? ⟨B, 1, none⟩ = some (.int .i64 S.ps) := (hB.cell (p := ⟨B, 1, none⟩) (World.block_lt_of_cell? W _ hb)).trans hb
 have HE := Lib.hid (show okFt S f = ((decide (0 ≤ f.pz) && decide (f.pz < S.ps)) && (decide (1 ≤ f.kd) && decide (f.kd ≤ 3)) && okDay f.dy) from rfl)
 by_cases h1 : f.pz < 0
 · have n1 : decide (f.pz < 0) = true := by simpa using h1
   have m1 : decide (0 ≤ f.pz) = false := by simpa using h1
   have M1 := Lib.hid m1
   clear h1 m1
   go_enter Tryz.func28, Tryz.ntmps28
   go_wp2_with fail
   go_ret
   exact ⟨ret_bool (by rw [HE.out, M1.out]; rfl), hB⟩
 have n1 : decide (f.pz < 0) = false := by simpa using h1
 have M1 : Hid (decide (0 ≤ f.pz) = true) := Lib.hid (by simpa using h1)
 clear h1
 by_cases h2 : S.ps ≤ f.pz
 · have n2 : decide (S.ps ≤ f.pz) = true := by simpa using h2
   have M2 : Hid (decide (f.pz < S.ps) = false) := Lib.hid (by simpa using h2)
   clear h2
   go_enter Tryz.func28, Tryz.ntmps28
   go_wp2_with fail
   go_ret
   exact ⟨ret_bool (by rw [HE.out, M1.out, M2.out]; rfl), hB⟩
 have n2 : decide (S.ps ≤ f.pz) = false := by simpa using h2
 have M2 : Hid (decide (f.pz < S.ps) = true) := Lib.hid (by simpa using h2)
 clear h2
 by_cases h3 : f.kd < 1
 · have n3 : decide (f.kd < 1) = true := by simpa using h3
   have M3 : Hid (decide (1 ≤ f.kd) = false) := Lib.hid (by simpa using h3)
   clear h3
   go_enter Tryz.func28, Tryz.ntmps28
   go_wp2_with fail
   go_ret
   exact ⟨ret_bool (by rw [HE.out, M1.out, M2.out, M3.out]; rfl), hB⟩
 have n3 : decide (f.kd < 1) = false := by simpa using h3
 have M3 : Hid (decide (1 ≤ f.kd) = true) := Lib.hid (by simpa using h3)
 clear h3
 by_cases h4 : 3 < f.kd
 · have n4 : decide (3 < f.kd) = true := by simpa using h4
   have M4 : Hid (decide (f.kd ≤ 3) = false) := Lib.hid (by simpa using h4)
   clear h4
   go_enter Tryz.func28, Tryz.ntmps28
   go_wp2_with fail
   go_ret
   exact ⟨ret_bool (by rw [HE.out, M1.out, M2.out, M3.out, M4.out]; rfl), hB⟩
 have n4 : decide (3 < f.kd) = false := by simpa using h4
 have M4 : Hid (decide (f.kd ≤ 3) = true) := Lib.hid (by simpa using h4)
 clear h4
 have HD := Lib.hid (day_any f.dy (W.alloc (.cells #[.int .i64 f.pz, .int .i64 f.kd, .int .i64 f.un, .int .i64 f.dy, f.gr] 48)))
 go_enter Tryz.func28, Tryz.ntmps28
 go_wp2_with (refine HD.out.mono ?_; rintro e w' ⟨rfl, rfl⟩)
 go_ret
 exact ⟨ret_bool (by rw [HE.out, M1.out, M2.out, M3.out, M4.out]; simp), hB⟩
def begI (fs : List (Ft Value)) (fr to' : Int) (i : Nat) : Bool := match fs[i]? with
 | some f => begB fr to' f
 | none => false
def begTo (fs : List (Ft Value)) (fr to' : Int) (k : Nat) : List Nat := (List.range k).filter (begI fs fr to')
theorem begTo_step {fs : List (Ft Value)} {fr to' : Int} {k : Nat} {f : Ft Value} (h : fs[k]? = some f) : begTo fs fr to' (k + 1) = begTo fs fr to' k ++ if begB fr to' f then [k] else [] := by
 unfold begTo
 rw [List.range_succ, List.filter_append]
 have : begI fs fr to' k = begB fr to' f := by unfold begI; rw [h]
 by_cases e : begB fr to' f <;> simp [this, e]
theorem begTo_len (fs : List (Ft Value)) (fr to' : Int) (k : Nat) : (begTo fs fr to' k).length ≤ k := by
 unfold begTo
 refine Nat.le_trans (List.length_filter_le _ _) ?_
 rw [List.length_range]; exact Nat.le_refl _
def KpR (s b : Nat) (A B : World) : Prop := A.heap.size ≤ B.heap.size ∧ ∀ k, k < s → k ≠ b → B.heap[k]? = A.heap[k]?
theorem KpR.refl (s b : Nat) (A : World) : KpR s b A A := ⟨Nat.le_refl _, fun _ _ _ => rfl⟩
theorem KpR.trans {s b : Nat} {A B C : World} (h : KpR s b A B) (k : KpR s b B C) : KpR s b A C := ⟨Nat.le_trans h.1 k.1, fun i h1 h2 => (k.2 i h1 h2).trans (h.2 i h1 h2)⟩
theorem KpR.of_below {s b : Nat} {A B : World} (h : Below A.heap.size A B) (hs : s ≤ A.heap.size) : KpR s b A B := ⟨h.size, fun k h1 _ => h.block k (by omega)⟩
theorem KpR.putObj {s b : Nat} (W : World) (l : Nat) (o' : Obj) (h : s ≤ l) : KpR s b W (W.putObj l o') := ⟨by simp, fun k h1 _ => World.putObj_heap_other (by omega)⟩
theorem KpR.set {s b : Nat} (W : World) (o : Nat) (v : Value) : KpR s b W (W.setCell ⟨b, o, none⟩ v) := ⟨by simp [World.setCell], fun k _ h2 => Below.heap_setCell W _ v k h2⟩
theorem KpR.cell {s b : Nat} {A B : World} (h : KpR s b A B) {p : Addr} {v : Value} (hc : A.cell? p = some v) (h1 : p.block < s) (h2 : p.block ≠ b) : B.cell? p = some v := (World.cell?_of_block (w := A) (h.2 _ h1 h2)).trans hc
theorem SL.kept {α : Type} {enc : α → List Value} {k : Nat} {w w' : World} {a : Option Addr} {n c : Nat} {l : List α} (h : SL enc k w a n c l) {s b : Nat} (hk : KpR s b w w') (hs : ∀ B o, a = some ⟨B, o, none⟩ → 0 < n → B < s ∧ B ≠ b) : SL enc k w' a n c l where
 len := h.len
 cap := h.cap
 mx := h.mx
 at' := fun hn => let ⟨b, o, e, hl⟩ := h.at' hn; ⟨b, o, e, Nat.lt_of_lt_of_le hl hk.1⟩
 cell := fun B o e i x hx j v hv => hk.cell (h.cell B o e i x hx j v hv) (hs B o e (by have := h.lt hx; omega)).1 (hs B o e (by have := h.lt hx; omega)).2
theorem box3w (W : World) (c1 c2 c3 : Array Value) (t1 t2 t3 : TypeId) : Box (((W.alloc (.cells c1 t1)).alloc (.cells c2 t2)).alloc (.cells c3 t3)) W.heap.size c1 t1 ∧ Box (((W.alloc (.cells c1 t1)).alloc (.cells c2 t2)).alloc (.cells c3 t3)) (W.heap.size + 1) c2 t2 ∧ Box (((W.alloc (.cells c1 t1)).alloc (.cells c2 t2)).alloc (.cells c3 t3)) (W.heap.size + 1 + 1) c3 t3 ∧ Below W.heap.size W (((W.alloc (.cells c1 t1)).alloc (.cells c2 t2)).alloc (.cells c3 t3)) := by
 have h2 := Box.new (W.alloc (.cells c1 t1)) c2 t2
 have h3 := Box.new ((W.alloc (.cells c1 t1)).alloc (.cells c2 t2)) c3 t3
 rw [World.size_alloc] at h2
 rw [World.size_alloc, World.size_alloc] at h3
 exact ⟨((Box.new W _ _).alloc _).alloc _, h2.alloc _, h3, ((((Below.refl _ _).alloc (Nat.le_refl _) _).alloc (by simp) _).alloc (by simp; omega) _)⟩
theorem counting_any (fa : Option Addr) (fn fc : Nat) (fr to' : Int) (W : World) : Calls Tryz.prog 32 #[.slice fa fn fc, .int .i64 fr, .int .i64 to'] W fun e w' =>
 e = .returned (.func (.func 50) #[] #[.pointer (some ⟨W.heap.size, 0, none⟩), .pointer (some ⟨W.heap.size + 1, 0, none⟩), .pointer (some ⟨W.heap.size + 1 + 1, 0, none⟩)]) ∧
 Box w' W.heap.size #[.slice fa fn fc] 27 ∧ Box w' (W.heap.size + 1) #[.int .i64 fr] 3 ∧ Box w' (W.heap.size + 1 + 1) #[.int .i64 to'] 3 ∧ Below W.heap.size W w' := by
 obtain ⟨h1, h2, h3, h4⟩ := box3w W #[.slice fa fn fc] #[.int .i64 fr] #[.int .i64 to'] 27 3 3
 have H1 := Lib.hid h1
 have H2 := Lib.hid h2
 have H3 := Lib.hid h3
 have H4 := Lib.hid h4
 clear h1 h2 h3 h4
 go_enter Tryz.func32, Tryz.ntmps32
 go_wp2_with fail
 go_ret
 exact ⟨rfl, H1.out, H2.out, H3.out, H4.out⟩
end Go.Proofs.YtehoidohallfcaaGreatDoor
/- The iterator of rulings.counting: the indices of the faults that begin between two days. -/
namespace Go.Proofs.YtehoidohallfcaaGreatDoor
open Go.RowKit
attribute [local go_sem] Oper.semAt_some
def GrOk (fs : List (Ft Value)) : Prop := ∀ f ∈ fs, ∃ a n c, f.gr = .slice a n c
def iEnc {n : Nat} (i : Fin n) : Array Value := #[.int .i64 (i.val : Int)]
set_option maxRecDepth 20000 in
set_option maxHeartbeats 4000000 in
theorem cnt1_stops (fa : Option Addr) (fn fc : Nat) (fs : List (Ft Value)) (fr to' : Int) (B1 B2 B3 Bw : Nat) (W : World) (hx1 : Box W B1 #[.slice fa fn fc] 27) (hx2 : Box W B2 #[.int .i64 fr] 3) (hx3 : Box W B3 #[.int .i64 to'] 3)
 (hS : SL encFt 5 W fa fn fc fs) (hG : GrOk fs) (_hn1 : B1 ≠ Bw) (hn2 : B2 ≠ Bw) (hn3 : B3 ≠ Bw) (hfa : ∀ B o, fa = some ⟨B, o, none⟩ → 0 < fn → B < W.heap.size ∧ B ≠ Bw) :
 SeqStopsK Fence.wide 5 Tryz.prog 50 #[.pointer (some ⟨B1, 0, none⟩), .pointer (some ⟨B2, 0, none⟩), .pointer (some ⟨B3, 0, none⟩)] iEnc (KpR W.heap.size Bw) (fun xs : List (Fin fn) => xs.map Fin.val = begTo fs fr to' fn)
  (fun pre : List (Fin fn) => ∃ k, k < fn ∧ pre.map Fin.val = begTo fs fr to' k ++ [k] ∧ begI fs fr to' k = true) fn W := by
 intro li J Jx W1 hB hJ hJx hY h0
 have hl1 := hx1.lt
 have hl2 := hx2.lt
 have hl3 := hx3.lt
 have hs1 := hB.size
 have d1 : W1.cell? ⟨B1, 0, none⟩ = some (.slice fa fn fc) := by simpa using (hx1.below hB).cell 0
 have hX2 := Lib.hid ((hx2.below hB).cell 0)
 have hX3 := Lib.hid ((hx3.below hB).cell 0)
 have hS1 := hS.below hB
 have hm0 := hS.mx
 have hc0 := hS.cap
 unfold maxLen at hm0
 have HL := Lib.hid hS.len
 have HG := Lib.hid hG
 clear hx1 hx2 hx3 hS hG
 refine callsIn_of_wp Tryz.func50 rfl trivial ?_ rfl
 simp only [Tryz.ntmps50, List.size_toArray, List.length_cons, List.length_nil, Nat.reduceAdd, Nat.reduceSub, Array.replicate_succ, Array.replicate_zero, List.push_toArray, List.append_toArray, List.nil_append, List.cons_append]
 gi_wp2
 gi_loopw [9] (fun i wr => ∃ k : Nat, i = .int .i64 k ∧ k ≤ fn ∧ KpR W.heap.size Bw W1 wr ∧ ∃ pre : List (Fin fn), pre.map Fin.val = begTo fs fr to' k ∧ J pre wr) (fun i _ => fn - (intOf i).toNat)
 case atStart => exact ⟨0, rfl, by omega, KpR.refl _ _ _, [], rfl, h0⟩
 case round =>
  obtain ⟨k, rfl, hk, hKp, pre, hpre, hJk⟩ := hrel
  by_cases hlt : k < fn
  rotate_left
  · obtain rfl : fn = k := by omega
    gi_wp2
    go_end0
    exact ⟨⟨_, rfl⟩, .inl ⟨pre, hpre, hJk⟩⟩
  obtain ⟨b0, o0, rfl, hb0⟩ := hS1.at' (by omega)
  obtain ⟨hfb, hfw⟩ := hfa b0 o0 rfl (by omega)
  have hSr := hS1.kept hKp (fun B o e _ => by injection e with e; injection e with e1 e2; subst e1; exact ⟨hfb, hfw⟩)
  obtain ⟨x, hx⟩ := hS1.get hlt
  obtain ⟨e0, e1, e2, e3, e4⟩ := hSr.ft5 hx
  obtain ⟨ga, gn, gc, hg⟩ := HG.out x (List.mem_of_getElem? hx)
  rw [hg] at e4
  clear hg
  have hst := begTo_step (fr := fr) (to' := to') hx
  have HST := Lib.hid hst
  have HX := Lib.hid hx
  have s0 : (0 : Int) ≤ (k : Int) := by omega
  have s1 : (k : Int) < (fn : Int) := by omega
  have hsr := hKp.1
  have f2 : wr.cell? ⟨B2, 0, none⟩ = some (.int .i64 fr) := hKp.cell (by simpa using hX2.out) hl2 hn2
  have f3 : wr.cell? ⟨B3, 0, none⟩ = some (.int .i64 to') := hKp.cell (by simpa using hX3.out) hl3 hn3
  have hbk : Below wr.heap.size wr (wr.alloc (.cells #[.int .i64 x.pz, .int .i64 x.kd, .int .i64 x.un, .int .i64 x.dy, .slice ga gn gc] 48)) := (Below.refl _ _).alloc (Nat.le_refl _) _
  obtain ⟨q0, q1, q2, q3, q4⟩ := (Box.new wr #[.int .i64 x.pz, .int .i64 x.kd, .int .i64 x.un, .int .i64 x.dy, .slice ga gn gc] 48).g5
  have g2 := (hbk.cell (p := ⟨B2, 0, none⟩) (World.block_lt_of_cell? wr _ f2)).trans f2
  have g3 := (hbk.cell (p := ⟨B3, 0, none⟩) (World.block_lt_of_cell? wr _ f3)).trans f3
  have hJa := hJ _ wr (wr.alloc (.cells #[.int .i64 x.pz, .int .i64 x.kd, .int .i64 x.un, .int .i64 x.dy, .slice ga gn gc] 48)) none hJk (World.grownBy_alloc _ _ none) (fun r e => by cases e)
  have HKa := Lib.hid (hKp.trans (KpR.of_below (b := Bw) hbk (by omega)))
  have HJA := Lib.hid hJa
  have hbl : pre.length ≤ k := by rw [← List.length_map (f := Fin.val), hpre]; exact begTo_len fs fr to' k
  have HPRE := Lib.hid hpre
  clear hst hx hJk hJa hSr hbk hpre
  by_cases c1 : x.kd = 3
  · have n1 : (x.kd != 3) = false := by simpa using c1
    (have HN : Hid (begTo fs fr to' (k + 1) = begTo fs fr to' k) := Lib.hid (by rw [HST.out]; unfold begB; simp [c1]))
    clear c1
    gi_wp2
    refine ⟨fun f e => (by cases e), ?_⟩
    gi_wp2
    go_roundw
    case rel => exact ⟨k + 1, by go_num, by omega, HKa.out, pre, by rw [HN.out]; exact HPRE.out, HJA.out⟩
    case measure => simp [intOf]; omega
  have n1 : (x.kd != 3) = true := by simpa using c1
  by_cases c2 : fr < x.dy
  rotate_left
  · have n2 : decide (fr < x.dy) = false := by simpa using c2
    (have HN : Hid (begTo fs fr to' (k + 1) = begTo fs fr to' k) := Lib.hid (by rw [HST.out]; unfold begB; simp [n2]))
    clear c1 c2
    gi_wp2
    refine ⟨fun f e => (by cases e), ?_⟩
    gi_wp2
    go_roundw
    case rel => exact ⟨k + 1, by go_num, by omega, HKa.out, pre, by rw [HN.out]; exact HPRE.out, HJA.out⟩
    case measure => simp [intOf]; omega
  have n2 : decide (fr < x.dy) = true := by simpa using c2
  by_cases c3 : x.dy ≤ to'
  rotate_left
  · have n3 : decide (x.dy ≤ to') = false := by simpa using c3
    (have HN : Hid (begTo fs fr to' (k + 1) = begTo fs fr to' k) := Lib.hid (by rw [HST.out]; unfold begB; simp [n3]))
    clear c1 c2 c3
    gi_wp2
    refine ⟨fun f e => (by cases e), ?_⟩
    gi_wp2
    go_roundw
    case rel => exact ⟨k + 1, by go_num, by omega, HKa.out, pre, by rw [HN.out]; exact HPRE.out, HJA.out⟩
    case measure => simp [intOf]; omega
  have n3 : decide (x.dy ≤ to') = true := by simpa using c3
  have HBG : Hid (begB fr to' x = true) := Lib.hid (by unfold begB; rw [n2, n3]; simp [c1])
  have HN : Hid (begTo fs fr to' (k + 1) = begTo fs fr to' k ++ [k]) := Lib.hid (by rw [HST.out, if_pos HBG.out])
  obtain ⟨fn', tmps, assign, body, hy, hR⟩ := hY _ (⟨k, hlt⟩ : Fin fn) _ HJA.out (by omega)
  simp only [iEnc] at hy
  clear c1 c2 c3
  gi_wp2
  refine hR.mono ?_
  rintro e W3 (⟨rfl, hJ4, hk4⟩ | ⟨rfl, hJ4⟩)
  · clear hy hR
    gi_wp2
    go_roundw
    case rel => exact ⟨k + 1, by go_num, by omega, HKa.out.trans hk4, _, by rw [HN.out, List.map_append, HPRE.out]; rfl, hJ4⟩
    case measure => simp [intOf]; omega
  · clear hy hR
    gi_wp2
    (try simp only [Exit.inBlock, Exit.then])
    refine bodyPost_ret (results_none rfl _ _ _) rfl ?_
    exact ⟨⟨_, rfl⟩, .inr ⟨_, ⟨k, hlt, by rw [List.map_append, HPRE.out]; rfl, by unfold begI; rw [HX.out]; exact HBG.out⟩, hJ4⟩⟩
end Go.Proofs.YtehoidohallfcaaGreatDoor
/- A range over rulings.counting; the marks of faulty puzzles; slices.Clone at results. -/
namespace Go.Proofs.YtehoidohallfcaaGreatDoor
open Go.RowKit
attribute [local go_sem] Oper.semAt_some
theorem wp_range_cnt {Q : Exit → Act → World → Prop} {a : Act} {w : World} {assign body : Code} {g : Operand} (t s : Tmp) (fa : Option Addr) (fn fc : Nat) (fs : List (Ft Value)) (fr to' : Int) (B1 B2 B3 Bw : Nat)
 (hg : a.eval g = .func (.func 50) #[] #[.pointer (some ⟨B1, 0, none⟩), .pointer (some ⟨B2, 0, none⟩), .pointer (some ⟨B3, 0, none⟩)])
 (hx1 : Box w B1 #[.slice fa fn fc] 27) (hx2 : Box w B2 #[.int .i64 fr] 3) (hx3 : Box w B3 #[.int .i64 to'] 3)
 (hS : SL encFt 5 w fa fn fc fs) (hG : GrOk fs) (hn1 : B1 ≠ Bw) (hn2 : B2 ≠ Bw) (hn3 : B3 ≠ Bw) (hfa : ∀ B o, fa = some ⟨B, o, none⟩ → 0 < fn → B < w.heap.size ∧ B ≠ Bw)
 (I : List (Fin fn) → World → Prop) (Ix : Code → List (Fin fn) → World → Prop) (hI : OwnFrom w.heap.size I) (hIx : ∀ c, OwnFrom w.heap.size (Ix c)) (h0 : I [] w)
 (hassign : ∀ (l : Nat) (x : Fin fn) (W : World) (K : Act → World → Prop), K { tmps := (a.tmps.setIfInBounds t (.int .i64 (x.val : Int))).setIfInBounds s (.int .i64 (x.val : Int)), defers := [] } W →
  assign.wpIn (Fence.wide.inRound l) 4 Tryz.prog (Exit.then K (fun _ _ _ => False)) { tmps := a.tmps.setIfInBounds t (.int .i64 (x.val : Int)), defers := [] } W)
 (hbody : ∀ (l : Nat) (pre : List (Fin fn)) (x : Fin fn) (W : World), I pre W → pre.length < fn →
  body.wpIn (Fence.wide.inRound l) 4 Tryz.prog (ownPostG w.heap.size (KpR w.heap.size Bw) I Ix (pre ++ [x]) W) { tmps := (a.tmps.setIfInBounds t (.int .i64 (x.val : Int))).setIfInBounds s (.int .i64 (x.val : Int)), defers := [] } W)
 (hdone : ∀ (D : Nat) (xs : List (Fin fn)) (W : World), w.heap.size ≤ D → xs.map Fin.val = begTo fs fr to' fn → I xs W → W.heap[D]? = some (.deferred (some [])) → Q .normal { a with defers := { target := .collected D, args := #[] } :: a.defers } W)
 (hstop : ∀ (D : Nat) (c : Code) (k : Nat) (pre : List (Fin fn)) (W : World), w.heap.size ≤ D → k < fn → begI fs fr to' k = true → pre.map Fin.val = begTo fs fr to' k ++ [k] → Ix c pre W → W.heap[D]? = some (.deferred (some [])) → c.wpIn Fence.wide 6 Tryz.prog Q { a with defers := { target := .collected D, args := #[] } :: a.defers } W) :
 (Code.rangeFunc g #[t] assign body).wp Tryz.prog Q a w := by
 refine (wpIn_wide (n := 6)).1 ?_
 refine wpIn_rangeFunc_ownH rfl (by omega) (gf := 50) (lb := #[.pointer (some ⟨B1, 0, none⟩), .pointer (some ⟨B2, 0, none⟩), .pointer (some ⟨B3, 0, none⟩)]) hg trivial (enters_of Tryz.func50 (by kernel_rfl) rfl)
  (cnt1_stops fa fn fc fs fr to' B1 B2 B3 Bw w hx1 hx2 hx3 hS hG hn1 hn2 hn3 hfa) (fun h k => h.trans k) (fun W l o o' h1 _ _ _ => KpR.putObj W l o' h1) (Below.refl _ _) (fun _ => rfl) I Ix hI hIx h0
  (fun x a' _ => a' = { tmps := (a.tmps.setIfInBounds t (.int .i64 (x.val : Int))).setIfInBounds s (.int .i64 (x.val : Int)), defers := [] }) ?_ ?_ ?_ ?_ ?_
 · rintro x a' _ W W' row e _ _
   exact e
 · intro l pre x W K hi hk
   have hz : ∀ u : Array Value, (Array.zip #[t] (iEnc x)).foldl (fun (u : Array Value) (y : Tmp × Value) => match y with | (p, v) => u.setIfInBounds p v) u = u.setIfInBounds t (.int .i64 (x.val : Int)) := fun u => by simp [iEnc]
   rw [hz]
   exact hassign l x W K (hk _ _ (KeepsFrom.refl _ _) (KpR.refl _ _ _) hi rfl)
 · rintro l pre x a' W _ _ hi rfl hlen
   exact hbody l pre x W hi hlen
 · rintro D xs W hD he hi hd
   exact hdone D xs W hD he hi hd
 · rintro D c pre W hD ⟨k, hk, he, hb⟩ h hd
   exact hstop D c k pre W hD hk hb he h hd
def pzI (fs : List (Ft Value)) (i : Nat) : Int := match fs[i]? with
 | some f => f.pz
 | none => -1
def mkB (fs : List (Ft Value)) (pre : List Nat) (p : Nat) : Bool := pre.any fun i => decide (pzI fs i = (p : Int))
def mkC (fs : List (Ft Value)) (pre : List Nat) : Array Value := ((List.range 8).map fun p => Value.bool (mkB fs pre p)).toArray
theorem mkC_zero (fs : List (Ft Value)) : mkC fs [] = #[.bool false, .bool false, .bool false, .bool false, .bool false, .bool false, .bool false, .bool false] := rfl
theorem mkC_get (fs : List (Ft Value)) (pre : List Nat) {p : Nat} (h : p < 8) : (mkC fs pre)[p]? = some (.bool (mkB fs pre p)) := by
 unfold mkC; simp [h]
theorem mkC_set (fs : List (Ft Value)) (pre : List Nat) {i p : Nat} (h : p < 8) (hp : pzI fs i = (p : Int)) : (mkC fs pre).setIfInBounds p (.bool true) = mkC fs (pre ++ [i]) := by
 apply Array.ext_getElem?
 intro q
 by_cases hq : q < 8
 · rw [mkC_get _ _ hq, Array.getElem?_setIfInBounds]
   by_cases e : p = q
   · subst e
     rw [if_pos rfl, if_pos (by simp [mkC, h])]
     unfold mkB; simp [hp]
   · rw [if_neg e, mkC_get _ _ hq]
     unfold mkB
     have h1 : ¬ pzI fs i = (q : Int) := by rw [hp]; omega
     simp [h1]
 · rw [Array.getElem?_eq_none (by simp [mkC]; omega), Array.getElem?_eq_none (by simp [mkC]; omega)]
theorem mkB_all (fs : List (Ft Value)) (by' : Int) (p : Nat) : mkB fs (begTo fs (-1) by' fs.length) p = fltB fs (p : Int) by' := by
 rw [Bool.eq_iff_iff, flt_iff]
 unfold mkB begTo
 simp only [List.any_eq_true, List.mem_filter, List.mem_range, decide_eq_true_eq]
 constructor
 · rintro ⟨i, ⟨hi, hb⟩, hp⟩
   unfold begI pzI at *
   rw [List.getElem?_eq_getElem hi] at hb hp
   exact ⟨_, List.getElem_mem hi, hp, hb⟩
 · rintro ⟨f, hf, h1, h2⟩
   obtain ⟨i, hi, e⟩ := List.getElem_of_mem hf
   refine ⟨i, ⟨hi, ?_⟩, ?_⟩
   · unfold begI; rw [List.getElem?_eq_getElem hi, e]; exact h2
   · unfold pzI; rw [List.getElem?_eq_getElem hi, e]; exact h1
def resTo (fs : List (Ft Value)) (by' : Int) (l : List Rs) (k : Nat) : List Rs := resL fs by' (l.take k) ++ l.drop k
theorem resTo_zero (fs : List (Ft Value)) (by' : Int) (l : List Rs) : resTo fs by' l 0 = l := by simp [resTo, resL]
theorem resTo_all (fs : List (Ft Value)) (by' : Int) (l : List Rs) : resTo fs by' l l.length = resL fs by' l := by simp [resTo]
theorem resTo_len (fs : List (Ft Value)) (by' : Int) (l : List Rs) (k : Nat) : (resTo fs by' l k).length = l.length := by
 unfold resTo; rw [List.length_append, resL_len, List.length_take, List.length_drop]; omega
theorem resTo_get {fs : List (Ft Value)} {by' : Int} {l : List Rs} {k : Nat} {x : Rs} (h : l[k]? = some x) : (resTo fs by' l k)[k]? = some x := by
 have hk := (List.getElem?_eq_some_iff.1 h).1
 have h1 : (resL fs by' (l.take k)).length = k := by rw [resL_len, List.length_take]; omega
 unfold resTo
 rw [List.getElem?_append_right (by omega), h1, Nat.sub_self, List.getElem?_drop, Nat.add_zero]; exact h
theorem resTo_step {fs : List (Ft Value)} {by' : Int} {l : List Rs} {k : Nat} {x : Rs} (h : l[k]? = some x) : resTo fs by' l (k + 1) = (resTo fs by' l k).set k { x with rt := x.rt && !fltB fs x.pz by' } := by
 obtain ⟨hk, e⟩ := List.getElem?_eq_some_iff.1 h
 have h1 : (resL fs by' (l.take k)).length = k := by rw [resL_len, List.length_take]; omega
 unfold resTo
 rw [List.set_append_right _ _ (by omega), h1, Nat.sub_self, List.drop_eq_getElem_cons hk, s_z, takeF h]
 unfold resL
 rw [List.map_append]
 simp
theorem flat_set {α : Type} {enc : α → List Value} {k : Nat} (hk : ∀ x, (enc x).length = k) {l : List α} {i j : Nat} {x y : α} {v : Value} (hx : l[i]? = some x) (hj : j < k) (hy : enc y = (enc x).set j v) : (l.flatMap enc).set (i * k + j) v = (l.set i y).flatMap enc := by
 have hi := (List.getElem?_eq_some_iff.1 hx).1
 apply List.ext_getElem?
 intro q
 by_cases hq : q < l.length * k
 · have hk0 : 0 < k := by omega
   obtain ⟨a, b, hb, rfl⟩ : ∃ a b, b < k ∧ q = a * k + b := ⟨q / k, q % k, Nat.mod_lt _ hk0, by rw [Nat.mul_comm]; exact (Nat.div_add_mod q k).symm⟩
   have ha : a < l.length := by
    refine Nat.lt_of_not_le fun h => ?_
    have := Nat.mul_le_mul_right k h
    omega
   have hget : l[a]? = some l[a] := List.getElem?_eq_getElem ha
   by_cases e : i = a
   · subst e
     rw [hget] at hx; injection hx with hx
     rw [flat_get hk (l.set i y) i y (by rw [List.getElem?_set_self ha]) b hb, hy]
     by_cases e2 : j = b
     · subst e2
       rw [List.getElem?_set_self (by rw [flat_len hk]; exact hq), List.getElem?_set_self (by rw [hk]; exact hj)]
     · rw [List.getElem?_set_ne (by omega), List.getElem?_set_ne e2, flat_get hk l i _ hget b hb, hx]
   · rw [flat_get hk (l.set i y) a l[a] (by rw [List.getElem?_set_ne e]; exact hget) b hb]
     rw [List.getElem?_set_ne, flat_get hk l a _ hget b hb]
     intro h
     rcases Nat.lt_or_gt_of_ne e with h1 | h1
     · have := Nat.mul_le_mul_right k (show i + 1 ≤ a from h1); rw [Nat.add_mul] at this; omega
     · have := Nat.mul_le_mul_right k (show a + 1 ≤ i from h1); rw [Nat.add_mul] at this; omega
 · rw [List.getElem?_eq_none (by rw [List.length_set, flat_len hk]; omega), List.getElem?_eq_none (by rw [flat_len hk, List.length_set]; omega)]
theorem ownsRow_set {w : World} {base : Nat} {e : TypeId} {k g n c : Nat} {xs : List Value} (h : w.ownsRow base e k (.slice (some ⟨g, 0, none⟩) n c) n xs) (i : Nat) (v : Value) (_hi : i < n * k) :
 (w.setCell ⟨g, i, none⟩ v).ownsRow base e k (.slice (some ⟨g, 0, none⟩) n c) n (xs.set i v) := by
 refine ⟨by rw [List.length_set]; exact h.1, ?_⟩
 rcases h.2 with ⟨h1, _⟩ | ⟨g', cap, cur, e1, hb, hg, hnc, hcm, hcs, ht⟩
 · cases h1
 · obtain ⟨rfl, rfl⟩ : g = g' ∧ c = cap := by injection e1 with a _ b; injection a with a; injection a with a; exact ⟨a, b⟩
   refine .inr ⟨g, c, cur.setIfInBounds i v, rfl, hb, (show Box w g cur e from hg).set i v, hnc, hcm, by simp [hcs], ?_⟩
   rw [← ht, Array.toList_setIfInBounds, List.take_set]
theorem OwnSL.set {α : Type} {enc : α → List Value} {k : Nat} {w : World} {base b n c : Nat} {e : TypeId} {l : List α} (h : OwnSL enc k w base e (.slice (some ⟨b, 0, none⟩) n c) l) (hk : ∀ x, (enc x).length = k) (hn : l.length = n) {i j : Nat} {x y : α} {v : Value} (hx : l[i]? = some x) (hj : j < k) (hy : enc y = (enc x).set j v) : OwnSL enc k (w.setCell ⟨b, i * k + j, none⟩ v) base e (.slice (some ⟨b, 0, none⟩) n c) (l.set i y) := by
 have hi := (List.getElem?_eq_some_iff.1 hx).1
 unfold OwnSL at h ⊢
 rw [List.length_set, hn, ← flat_set hk hx hj hy]
 rw [hn] at h
 refine ownsRow_set h _ _ ?_
 have := Nat.mul_le_mul_right k (show i + 1 ≤ n by omega)
 rw [Nat.add_mul] at this; omega
theorem own_spot {w : World} {base n c k : Nat} {e : TypeId} {a : Option Addr} {xs : List Value} (h : w.ownsRow base e k (.slice a n c) n xs) (h0 : 0 < n) : ∃ b, a = some ⟨b, 0, none⟩ ∧ base ≤ b ∧ b < w.heap.size ∧ ∀ i, w.frozen? ⟨b, i, none⟩ = false := by
 rcases h.2 with ⟨e1, h1⟩ | ⟨g', cap, cur, e1, hb, hg, hnc, hcm, hcs, ht⟩
 · omega
 · injection e1 with e1 _ _
   subst e1
   have hx : Box w g' cur e := hg
   exact ⟨g', rfl, hb, hx.lt, hx.frozen⟩
theorem info6 : (Tryz.prog.info? 53).map (fun i => (i.zero, i.size, i.bytes)) = some (some (.agg #[.int .i64 0, .int .i64 0, .int .i64 0, .int .i64 0, .int .i64 0, .bool false]), 6, 48) := by kernel_rfl
end Go.Proofs.YtehoidohallfcaaGreatDoor
/- slices.Clone at results; the mark of a puzzle; rulings.Results. -/
namespace Go.Proofs.YtehoidohallfcaaGreatDoor
open Go.RowKit
attribute [local go_sem] Oper.semAt_some
theorem SL.flat {α : Type} {enc : α → List Value} {k : Nat} {w : World} {a : Option Addr} {n c : Nat} {l : List α} (h : SL enc k w a n c l) (hk : ∀ x, (enc x).length = k) (k0 : 0 < k) (b : Addr) (hb : a = some b) : ∀ j v, (l.flatMap enc)[j]? = some v → w.cell? (b.add j) = some v := by
 intro j v hj
 have hjl := (List.getElem?_eq_some_iff.1 hj).1
 rw [flat_len hk, h.len] at hjl
 have hn : 0 < n := by
  rcases Nat.eq_zero_or_pos n with h0 | h0
  · subst h0; simp at hjl
  · exact h0
 obtain ⟨b', o', e, hlt⟩ := h.at' hn
 rw [hb] at e; injection e with e; subst e
 have hi : j / k < n := Nat.div_lt_of_lt_mul (by rw [Nat.mul_comm]; exact hjl)
 obtain ⟨x, hx⟩ := h.get hi
 have hr : j % k < k := Nat.mod_lt _ k0
 have hd : j / k * k + j % k = j := by rw [Nat.mul_comm]; exact Nat.div_add_mod j k
 have h1 := flat_get hk l (j / k) x hx (j % k) hr
 rw [hd, hj] at h1
 have h2 := h.cell b' o' hb (j / k) x hx (j % k) v h1.symm
 have e2 : (⟨b', o', none⟩ : Addr).add j = ⟨b', o' + j / k * k + j % k, none⟩ := by
  simp only [Addr.add]; rw [Nat.add_assoc, hd]
  split
  · rename_i h0; rw [h0, Nat.add_zero]
  · rfl
 rw [e2]; exact h2
theorem rs_one (l : List Rs) : ∀ u ∈ l.flatMap encRs, u.oneCell' = true := by
 intro u hu
 rw [List.mem_flatMap] at hu
 obtain ⟨x, _, h⟩ := hu
 simp [encRs] at h
 rcases h with rfl | rfl | rfl | rfl | rfl | rfl <;> rfl
set_option maxRecDepth 10000 in
set_option maxHeartbeats 2000000 in
theorem cloneR_any (a0 : Option Addr) (n0 c0 : Nat) (l : List Rs) (w : World) (h0 : SL encRs 6 w a0 n0 c0 l) (hn : n0 ≤ 1000000) :
 Calls Tryz.prog 33 #[.slice a0 n0 c0] w (RetSL encRs 6 w 53 l) := by
 have hm0 := h0.mx
 have hc0 := h0.cap
 have hl0 := Lib.hid h0.len
 have heq := fun (w : World) => Lib.run_eql_slice_nil w 26 53 a0 n0 c0 0 0 Tryz.underlying26
 obtain ⟨i28, hi28, hz280, hz281, hz282⟩ := info_parts info6
 have hm1 : c0 ≤ maxLen := hm0
 unfold maxLen at hm0
 cases a0 with
 | none =>
  have hn0 : n0 = 0 := by
   rcases Nat.eq_zero_or_pos n0 with h | h
   · exact h
   · obtain ⟨b, o, e, _⟩ := h0.at' h; cases e
  subst hn0
  have hl : l = [] := List.eq_nil_of_length_eq_zero hl0.out
  subst hl
  simp only [Option.isNone_none] at heq
  go_enter Tryz.func33, Tryz.ntmps33
  go_wp2_with fail
  go_ret
  exact ⟨_, rfl, OwnSL.nil _ _ _ _ _, Below.refl _ _⟩
 | some ad =>
  simp only [Option.isNone_some] at heq
  go_enter Tryz.func33, Tryz.ntmps33
  go_wp2_with (at_builtin; refine wpList_append_any rfl _ _ 26 rfl w.heap.size 53 i28 _ 6 48 Tryz.underlying26 hi28 hz280 hz281 hz282 rfl (by decide) (.slice (some ⟨w.heap.size, 0, none⟩) 0 0) 0 [] (World.ownsRow_made w #[] 0 (Nat.le_refl _) (by simp [maxLen]) rfl) rfl (some ad) n0 c0 (l.flatMap encRs) rfl (fun h => by cases h) (by rw [flat_len encRs_len, hl0.out]) (fun a ha => (h0.below ((Below.refl _ _).alloc (Nat.le_refl _) _)).flat encRs_len (by decide) a ha) (rs_one _) (by unfold maxLen; omega) (by omega) (by simp) ?_; intro v' w5 hown' hgrow hfr)
  go_ret
  refine ⟨v', rfl, ?_, ((Below.refl _ _).alloc (Nat.le_refl _) _).grown hgrow (by simp) (fun k e => by simp [Value.ownBlock] at e; omega)⟩
  rw [Nat.zero_add, List.nil_append, ← hl0.out] at hown'
  exact hown'
theorem mark_any (i : Nat) (Bf Bb : Nat) (fa : Option Addr) (fn fc : Nat) (fs : List (Ft Value)) (p : Nat) (cs : Array Value) (t : TypeId) (W : World) (hx : Box W Bf cs t) (hp8 : p < 8) (hp : pzI fs i = (p : Int)) (hb : W.cell? ⟨Bb, 0, none⟩ = some (.slice fa fn fc)) (hS : SL encFt 5 W fa fn fc fs) (hi : i < fn)
 (hold : ∃ b, cs[p]? = some (.bool b)) :
 Calls Tryz.prog 31 #[.int .i64 (i : Int), .pointer (some ⟨Bf, 0, none⟩), .pointer (some ⟨Bb, 0, none⟩)] W fun e w' => e = .returned (.tuple #[]) ∧ w' = W.setCell ⟨Bf, p, none⟩ (.bool true) := by
 obtain ⟨b0, o0, rfl, hb0⟩ := hS.at' (by omega)
 obtain ⟨x, hxx⟩ := hS.get hi
 have hpz : x.pz = (p : Int) := by unfold pzI at hp; rw [hxx] at hp; exact hp
 obtain ⟨e0, e1, e2, e3, e4⟩ := hS.ft5 hxx
 rw [hpz] at e0
 obtain ⟨bo, hbo⟩ := hold
 have c0 := hx.cell p
 rw [hbo] at c0
 have f0 := hx.frozen p
 have hlt := hx.lt
 have s0 : (0 : Int) ≤ (i : Int) := by omega
 have s1 : (i : Int) < (fn : Int) := by omega
 have s2 : (0 : Int) ≤ (p : Int) := by omega
 have s3 : (p : Int) < 8 := by omega
 have hm0 := hS.mx
 have hc0 := hS.cap
 unfold maxLen at hm0
 clear hx hS hbo hpz
 go_enter Tryz.func31, Tryz.ntmps31
 go_wp2_with fail
 go_end0
 exact ⟨rfl, rfl⟩
end Go.Proofs.YtehoidohallfcaaGreatDoor
