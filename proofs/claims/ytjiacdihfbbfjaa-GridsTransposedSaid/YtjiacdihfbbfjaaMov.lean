/- Contract of moves.Moves. -/
import Derived.RangeFuncNested
import Derived.RangeFuncBound
import Derived.RangeFuncCalls
import Derived.RangeFuncLeaves
import Derived.Shelf.Abstract
import Derived.Shelf.RegionOpen
import Derived.WalkKit
import Derived.OwnWalkIn
import Derived.TacticsInMore
import Derived.LoopNIn
import Derived.LoopIn
import Derived.Outline
import Derived.Test.YtjiacdihfbbfjaaMovM
import Derived.Test.YtjiacdihfbbfjaaImg2
import Derived.Test.YtjiacdihfbbfjaaRefD
namespace Go.Proofs.Ytjiacdihfbbfjaa
open Go.RowKit Go.Shelf
attribute [local go_sem] Oper.semAt_some

theorem cell_no {w : World} {b : Nat} {o : Obj} (h : w.heap[b]? = some o) (hno : o.isCells = false) (i : Nat) : w.cell? ⟨b, i, none⟩ = none := by
  unfold World.cell?
  simp only [h]
  cases o <;> simp_all [Obj.isCells]
theorem Ints.put {w : World} {a : Option Addr} {n c q : Nat} {l : List Int} {o : Obj} (h : Ints w a n c l) (hq : w.heap[q]? = some o) (hno : o.isCells = false) (o' : Obj) : Ints (w.putObj q o') a n c l := by
  refine h.grown (grownBy_putObj' w q o') fun hn e => ?_
  obtain ⟨b, f, rfl, _⟩ := h.at' hn
  obtain rfl : b = q := by simpa [Value.ownBlock] using e
  have := h.cell b f rfl 0 hn
  rw [cell_no hq hno] at this; cases this
theorem Box.put {w : World} {B q : Nat} {cs : Array Value} {t : TypeId} {o : Obj} (h : Box w B cs t) (hq : w.heap[q]? = some o) (hno : o.isCells = false) (o' : Obj) : Box (w.putObj q o') B cs t := by
  refine (World.putObj_heap_other ?_).trans h
  rintro rfl
  unfold Box at h
  rw [h] at hq; cases hq; simp [Obj.isCells] at hno
theorem ownsRow_put {w : World} {base q : Nat} {e : TypeId} {v : Value} {n : Nat} {xs : List Value} {o : Obj} (h : w.ownsRow base e 1 v n xs) (hq : w.heap[q]? = some o) (hno : o.isCells = false) (o' : Obj) : (w.putObj q o').ownsRow base e 1 v n xs := by
  refine World.ownsRow.kept h (grownBy_putObj' w q o') ?_
  rcases h.2 with ⟨rfl, _⟩ | ⟨g, cap, cur, rfl, _, hg, _⟩
  · exact .inl rfl
  · refine .inr fun e => ?_
    obtain rfl : g = q := by simpa [Value.ownBlock] using e
    rw [hg] at hq; cases hq; simp [Obj.isCells] at hno
theorem OwnRows.put {w : World} {base q : Nat} {e : TypeId} {v : Value} {ll : List (List Int)} {o : Obj} (h : OwnRows w base e v ll) (hq : w.heap[q]? = some o) (hno : o.isCells = false) (o' : Obj) : OwnRows (w.putObj q o') base e v ll :=
  let ⟨us, h1, h2⟩ := h; ⟨us, ownsRow_put h1 hq hno o', h2.mono fun _ _ ⟨a, n, c, e1, hI, ho⟩ => ⟨a, n, c, e1, hI.put hq hno o', ho⟩⟩
theorem below_put {n0 q : Nat} {w w' : World} (h : Below n0 w w') (hq : n0 ≤ q) (hs : n0 ≤ w'.heap.size) (o' : Obj) : Below n0 w (w'.putObj q o') := h.grown (grownBy_putObj' w' q o') hs (fun k e => by cases e; exact hq)
theorem Ints.box_ne {w : World} {a : Option Addr} {n c B : Nat} {l : List Int} {u : Value} {t : TypeId} (h : Ints w a n c l) (hb : Box w B #[u] t) (hu : ∀ k x, u ≠ .int k x) : 0 < n → (Value.slice a n c).ownBlock ≠ some B := by
  intro hn e
  obtain ⟨b, f, rfl, _⟩ := h.at' hn
  obtain rfl : b = B := by simpa [Value.ownBlock] using e
  have h1 := h.cell b f rfl 0 hn
  rw [hb.cell] at h1
  have h2 := List.mem_of_getElem? (l := #[u].toList) (by simpa using h1)
  simp at h2
  exact hu _ _ h2.symm
theorem OwnRows.setBox {w : World} {B : Nat} {e : TypeId} {v u : Value} {t : TypeId} {ll : List (List Int)} (h : OwnRows w (B + 1) e v ll) (hb : Box w B #[u] t) (hu : ∀ k x, u ≠ .int k x) (x : Value) : OwnRows (w.setCell ⟨B, 0, none⟩ x) (B + 1) e v ll := by
  obtain ⟨us, h1, h2⟩ := h
  refine ⟨us, ownsRow_setCell_other h1 (fun e => by have := (h1.lt B e).1; omega) x, h2.mono fun _ _ ⟨a, n, c, e1, hI, ho⟩ => ⟨a, n, c, e1, hI.setOther x (hI.box_ne hb hu), ho⟩⟩

/-- What holds between two rounds: lb is the box of l. -/
structure MvI (lb : Nat) (W00 : World) (T : Nat → Prop) (pre : List Yd) (W : World) (v : Value) : Prop where
  box : Box W lb #[v] 28
  own : OwnRows W (lb + 1) 22 v (sortedL (pre.map (·.2)))
  below : Below W00.heap.size W00 W
  T : ∀ k, T k ↔ (k = lb ∨ v.ownBlock = some k)
def MvJ (lb : Nat) (W00 : World) (T : Nat → Prop) (pre : List Yd) (W : World) : Prop := ∃ v, MvI lb W00 T pre W v
def MvV (lb : Nat) (W00 : World) (T : Nat → Prop) (pre : List Yd) (x : Yd) (W : World) : Prop := MvJ lb W00 T pre W ∧ Ints W x.1.1 x.1.2.1 x.1.2.2 x.2 ∧ ∀ k, (Value.slice x.1.1 x.1.2.1 x.1.2.2).ownBlock = some k → ¬ T k
def lb_ne (n : Nat) (v : Value) : Prop := v.ownBlock ≠ some (n + 1)
theorem own_apart {w : World} {ap : Option Addr} {np cp lb : Nat} {p : List Int} {T : Nat → Prop} {v : Value} (hx : Ints w ap np cp p) (hT : ∀ k, T k ↔ (k = lb ∨ v.ownBlock = some k)) (hnew : ∀ k, (Value.slice ap np cp).ownBlock = some k → ¬ T k) :
    0 < np → (Value.slice ap np cp).ownBlock ≠ v.ownBlock := by
  intro hn e
  obtain ⟨b, o, rfl, _⟩ := hx.at' hn
  exact hnew b rfl ((hT b).2 (.inr (by rw [← e]; rfl)))
def movesOut (g : Grid) : List (List Int) := if checkErr g = 0 then movesL g else []

set_option maxRecDepth 20000 in
set_option maxHeartbeats 1000000 in
theorem moves_bad (g : Grid) (ah ac : Option Addr) (nh ch nc cc : Nat) (W : World) (h1 : Ints W ah nh ch g.holes) (h2 : Ints W ac nc cc g.cells) (hn : nh ≤ 10000000) (hm : nc ≤ 10000000000) (he : checkErr g = 130) :
    Calls Try.prog 22 #[.agg #[.int .i64 g.shape, .int .i64 g.w, .int .i64 g.h, .slice ah nh ch, .slice ac nc cc]] W (RetRowsE W 22 [] 130) := by
  have hal : Below W.heap.size W ((W.alloc (.cells #[.int .i64 g.shape, .int .i64 g.w, .int .i64 g.h, .slice ah nh ch, .slice ac nc cc] 24)).alloc (.cells #[.slice none 0 0] 28)) := ((Below.refl _ _).alloc (Nat.le_refl _) _).alloc (by simp) _
  have hc := gridsCheck_any g ah ac nh ch nc cc _ (h1.below hal) (h2.below hal) hn hm
  rw [he] at hc
  have HC := Lib.hid hc
  clear hc he
  go_enter Try.func22, Try.ntmps22
  go_wp2_with (go_at_call 43; refine HC.out.mono ?_; rintro e w1 ⟨rfl, hB1⟩; have hx := (Box.new (W.alloc (.cells #[.int .i64 g.shape, .int .i64 g.w, .int .i64 g.h, .slice ah nh ch, .slice ac nc cc] 24)) #[.slice none 0 0] 28).below hB1; have hc := hx.cell 0; have hf := hx.frozen 0; simp only [World.size_alloc] at hx hc hf; simp at hc)
  refine bodyPost_ret (v := .tuple #[.slice none 0 0, .int .i64 130]) (by simp [results, Try.results22, go_sem, hc]) rfl ?_
  exact ⟨_, rfl, OwnRows.nil _ _ _, (hal.on hB1).setCell (p := ⟨W.heap.size + 1, 0, none⟩) (by simp) _⟩

set_option maxRecDepth 20000 in
set_option maxHeartbeats 2000000 in
theorem moves_ok (g : Grid) (ah ac : Option Addr) (nh ch nc cc : Nat) (W : World) (h1 : Ints W ah nh ch g.holes) (h2 : Ints W ac nc cc g.cells) (hn : nh ≤ 10000000) (hm : nc ≤ 10000000000) (he : checkErr g = 0) (hv : Valid g) :
    Calls Try.prog 22 #[.agg #[.int .i64 g.shape, .int .i64 g.w, .int .i64 g.h, .slice ah nh ch, .slice ac nc cc]] W (RetRowsE W 22 (movesL g) 0) := by
  have hal : Below W.heap.size W ((W.alloc (.cells #[.int .i64 g.shape, .int .i64 g.w, .int .i64 g.h, .slice ah nh ch, .slice ac nc cc] 24)).alloc (.cells #[.slice none 0 0] 28)) := ((Below.refl _ _).alloc (Nat.le_refl _) _).alloc (by simp) _
  have hc := gridsCheck_any g ah ac nh ch nc cc _ (h1.below hal) (h2.below hal) hn hm
  rw [he] at hc
  have HC := Lib.hid hc
  clear hc he
  refine (callsIn_wide (n := 6)).1 (callsIn_of_wp_marks Try.func22 rfl trivial ?_ rfl)
  simp only [Try.ntmps22, List.size_toArray, List.length_cons, List.length_nil, Nat.reduceAdd, Nat.reduceSub, Array.replicate_succ, Array.replicate_zero, List.push_toArray, List.append_toArray, List.nil_append, List.cons_append]
  gi_wp2_with (first | (refine ⟨trivial, ?_⟩; gi_at_call 43; refine (callsIn_wide.2 HC.out).mono ?_; rintro e w1 ⟨rfl, hB1⟩; have hg := (Box.below ((Box.new W #[.int .i64 g.shape, .int .i64 g.w, .int .i64 g.h, .slice ah nh ch, .slice ac nc cc] 24).alloc (.cells #[.slice none 0 0] 28)) hB1); have g0 := hg.cell 0; have g1 := hg.cell 1; have g2 := hg.cell 2; have g3 := hg.cell 3; have g4 := hg.cell 4; simp at g0 g1 g2 g3 g4) | (refine ⟨trivial, ?_⟩; gi_at_call 58; refine (callsIn_wide.2 (images_any _ rfl _)).mono ?_; rintro e w2 ⟨rfl, rfl⟩))
  clear HC g0 g1 g2 g3 g4
  have hB2 := hal.on hB1
  have hs1 := hB1.size
  simp only [World.size_alloc] at hs1
  have hbx := (Box.new (W.alloc (.cells #[.int .i64 g.shape, .int .i64 g.w, .int .i64 g.h, .slice ah nh ch, .slice ac nc cc] 24)) #[.slice none 0 0] 28).below hB1
  simp only [World.size_alloc] at hbx
  have hbi := Box.new w1 #[.int .i64 g.shape, .int .i64 g.w, .int .i64 g.h, .slice ah nh ch, .slice ac nc cc] 24
  have hal2 : Below w1.heap.size w1 (w1.alloc (.cells #[.int .i64 g.shape, .int .i64 g.w, .int .i64 g.h, .slice ah nh ch, .slice ac nc cc] 24)) := (Below.refl _ _).alloc (Nat.le_refl _) _
  have hB3 := hB2.on hal2
  obtain ⟨w3, hw3⟩ : ∃ w3, w1.alloc (.cells #[.int .i64 g.shape, .int .i64 g.w, .int .i64 g.h, .slice ah nh ch, .slice ac nc cc] 24) = w3 := ⟨_, rfl⟩
  rw [hw3] at hbi hal2 hB3 ⊢
  have hs3 : w3.heap.size = w1.heap.size + 1 := by rw [← hw3]; simp
  have hd := hv.dims
  have har := hv.area
  refine wpIn_rangeFunc_told rfl (by omega) (gf := 86) (lb := #[.pointer (some ⟨w1.heap.size, 0, none⟩)]) rfl trivial (enters_of Try.func86 (by kernel_rfl) rfl)
    (images1_told g w1.heap.size ah ac nh ch nc cc w3 hbi (h2.below hB3) ⟨hd.2.1, hd.2.2.1⟩ (fun x hx => by have := hv.mem hx; omega) (by rw [← h2.len]; exact ⟨hv.pos, hv.len⟩) hv.nodup) (Below.refl _ _) (fun _ => rfl)
    (fun k => k = W.heap.size + 1) ?hT0 (by rintro k rfl; omega) (MvJ (W.heap.size + 1) W) (MvV (W.heap.size + 1) W) ?hIput ?hVput ?hIb ?hV ?hT ?h0 (fun x => { tmps := #[.agg #[.int .i64 g.shape, .int .i64 g.w, .int .i64 g.h, .slice ah nh ch, .slice ac nc cc], .pointer (some ⟨W.heap.size, 0, none⟩), .pointer (some ⟨W.heap.size + 1, 0, none⟩), .int .i64 0, .int .i64 0, .slice x.1.1 x.1.2.1 x.1.2.2, undef, undef, .agg #[.int .i64 g.shape, .int .i64 g.w, .int .i64 g.h, .slice ah nh ch, .slice ac nc cc], .int .i64 0, .int .i64 0, .bool false, undef, .agg #[.int .i64 g.shape, .int .i64 g.w, .int .i64 g.h, .slice ah nh ch, .slice ac nc cc], .func (.func 86) #[] #[.pointer (some ⟨w1.heap.size, 0, none⟩)], .slice x.1.1 x.1.2.1 x.1.2.2, undef, undef, undef, undef, undef, undef, undef, undef, undef, undef, undef, undef, undef, undef], defers := [] }) ?assign ?body ?done
  case hT0 =>
    rintro k rfl (h | ⟨o, h⟩)
    · omega
    · obtain ⟨b', o', e, hlt⟩ := h2.at' (by rw [← h2.len]; exact hv.pos)
      rw [e] at h
      have : b' = W.heap.size + 1 := by have h := Option.some.inj h; simpa using congrArg Addr.block h
      omega
  case hIput =>
    rintro T pre W2 q o o' ⟨v, hI⟩ hq ho hno
    have hs0 := hI.below.size
    exact ⟨v, hI.box.put ho hno o', hI.own.put ho hno o', below_put hI.below (by omega) hs0 o', hI.T⟩
  case hVput =>
    rintro T pre x W2 q o o' ⟨⟨v, hI⟩, hx, hn⟩ hq ho hno
    have hs0 := hI.below.size
    exact ⟨⟨v, hI.box.put ho hno o', hI.own.put ho hno o', below_put hI.below (by omega) hs0 o', hI.T⟩, hx.put ho hno o', hn⟩
  case hIb =>
    rintro T pre W2 W3 ⟨v, hI⟩ hb
    exact ⟨v, hI.box.below hb, hI.own.below hb, hI.below.on hb, hI.T⟩
  case hV =>
    rintro T pre x W2 W3 ⟨v, hI⟩ hb ⟨hx, hn⟩
    refine ⟨⟨v, hI.box.below hb, hI.own.below hb, hI.below.on hb, hI.T⟩, hx, fun k hk hT => ?_⟩
    have h3 := hn k hk
    rcases (hI.T k).1 hT with rfl | h
    · have := hI.box.lt; omega
    · have := (hI.own.lt k h).2; omega
  case hT =>
    rintro T pre x W2 ⟨⟨v, hI⟩, _, _⟩ k o hT ho
    rcases (hI.T k).1 hT with rfl | h
    · have := hI.box
      unfold Box at this
      rw [this] at ho; cases ho; rfl
    · obtain ⟨us, h1, _⟩ := hI.own
      rcases h1.2 with ⟨rfl, _⟩ | ⟨g', cap, cur, rfl, _, hg, _⟩
      · simp [Value.ownBlock] at h
      · obtain rfl : g' = k := by simpa [Value.ownBlock] using h
        rw [hg] at ho; cases ho; rfl
  case h0 => exact ⟨_, hbx.below hal2, OwnRows.nil _ _ _, hB3, fun k => by simp [Value.ownBlock]⟩
  case assign =>
    rintro l ⟨⟨ap, np, cp⟩, p⟩ W2 K hK
    simp only [ydEnc] at hK ⊢
    gi_wp2
    exact hK
  case body =>
    rintro l T pre ⟨⟨ap, np, cp⟩, p⟩ W2 ⟨⟨v, hI⟩, hx, hnew⟩ hlen
    simp only at hx hnew
    obtain ⟨a, c, hva, hR⟩ := hI.own.rows
    have hln := sortedL_len (pre.map (·.2))
    simp only [List.length_map] at hln
    have hlm : linMany g.shape ≤ 12 := by unfold linMany; split <;> omega
    obtain ⟨ll, hll⟩ : ∃ ll, sortedL (pre.map (·.2)) = ll := ⟨_, rfl⟩
    have hinc := sortedL_incr (pre.map (·.2))
    rw [hll] at hR hva hln hinc
    subst hva
    have hc := hI.box.cell 0
    have hf := hI.box.frozen 0
    simp at hc
    have hcall := bsf_any a ap ll.length c np cp ll p W2 hR hx hinc (by omega)
    cases hfd : foundL ll p
    · rw [hfd] at hcall
      have HB := Lib.hid hcall
      have HL := Lib.hid hll
      clear hcall hll
      have hlp := posL_le ll p
      have hO := hI.own
      rw [HL.out] at hO
      have hT := hI.T
      have hne := own_apart hx hT hnew
      have hlt := hO.lt
      have hfl : lb_ne W.heap.size (.slice a ll.length c) := fun e => by have := (hlt _ e).1; omega
      have HD := Lib.hid hfd
      clear hfd hf
      have hs2 := hI.below.size
      have hlb := hI.box.lt
      gi_wp2_with (first | (refine ⟨trivial, ?_⟩; gi_at_call 59; refine (CallsIn.inRound l (callsIn_wide.2 HB.out)).mono ?_; rintro e w5 ⟨rfl, q, rfl⟩))
      refine ⟨trivial, ?_⟩
      have hin := (insert_any a ll.length c (posL ll p) W2.heap.size ap np cp ll p (W.heap.size + 1 + 1) ((W2.drewN q).alloc (.cells #[.slice ap np cp] 22)) ((hO.drewN q).below ((Below.refl _ _).alloc (Nat.le_refl _) _)) rfl ((hx.drewN q).below ((Below.refl _ _).alloc (Nat.le_refl _) _)) hne (Box.new (W2.drewN q) _ _) (fun e => by have := (hlt _ e).2; omega) (by omega) hlp (by simp; omega))
      refine (CallsIn.inRound l (callsIn_wide.2 hin)).mono ?_
      rintro e w6 ⟨v', rfl, hO', hg', hfr'⟩; obtain ⟨a', c', rfl, _⟩ := hO'.rows; have hb6 := Box.grown (((hI.box.drewN q).alloc (.cells #[.slice ap np cp] 22))) hg' hfl; have h6 := hb6.cell 0; have f6 := hb6.frozen 0; simp at h6
      gi_wp2
      refine ⟨fun k => k = W.heap.size + 1 ∨ (Value.slice a' (insAt ll (posL ll p) p).length c').ownBlock = some k, ⟨?_, ?_, ?_, ?_⟩, ?_⟩
      · have := hg'.size; simp at this ⊢; omega
      · intro k hk hnT
        have hk1 : k ≠ W.heap.size + 1 := fun e => hnT ((hT k).2 (.inl e))
        have hk2 : some k ≠ (Value.slice a ll.length c).ownBlock := fun e => hnT ((hT k).2 (.inr e.symm))
        rw [Below.heap_setCell _ _ _ _ hk1, hg'.block k (by simp; omega) hk2]
        exact Below.heap_alloc (W2.drewN q) _ k hk
      · rintro k (rfl | hk)
        · exact .inl ((hT _).2 (.inl rfl))
        · rcases hfr' with h | h
          · exact .inl ((hT k).2 (.inr (by rw [← h]; exact hk)))
          · exact .inr (by have := h k hk; simp at this; omega)
      · rintro k (rfl | hk)
        · have := hb6.lt; simpa using this
        · have := (hO'.lt k hk).2; simpa using this
      · refine ⟨_, hb6.set 0 _, ?_, ?_, fun k => Iff.rfl⟩
        · have hE : sortedL ((pre ++ [((ap, np, cp), p)]).map (·.2)) = insAt ll (posL ll p) p := by
            rw [List.map_append, List.map_singleton, sortedL_snoc, HL.out]
            unfold insL; rw [HD.out]; rfl
          rw [hE]
          exact hO'.setBox hb6 (by simp) _
        · exact (((below_drewN hI.below q).alloc (by simpa using hs2) _).grown hg' (by simp; omega) (fun k e => by have := (hlt k e).1; omega)).setCell (p := ⟨W.heap.size + 1, 0, none⟩) (by simp) _
    · rw [hfd] at hcall
      have HB := Lib.hid hcall
      have HL := Lib.hid hll
      have HD := Lib.hid hfd
      clear hcall hll hfd
      gi_wp2_with (first | (refine ⟨trivial, ?_⟩; gi_at_call 59; refine (CallsIn.inRound l (callsIn_wide.2 HB.out)).mono ?_; rintro e w5 ⟨rfl, q, rfl⟩))
      refine ⟨T, ⟨Nat.le_refl _, fun k _ _ => rfl, fun k h => .inl h, fun k h => ?_⟩, _, hI.box.drewN q, ?_, below_drewN hI.below q, hI.T⟩
      · rcases (hI.T k).1 h with rfl | h
        · exact hI.box.lt
        · exact (hI.own.lt k h).2
      · have hE : sortedL ((pre ++ [((ap, np, cp), p)]).map (·.2)) = sortedL (pre.map (·.2)) := by
          rw [List.map_append, List.map_singleton, sortedL_snoc, HL.out]
          unfold insL; rw [HD.out]; rfl
        rw [hE]; exact hI.own.drewN q
  case done =>
    rintro D T xs W2 hD hS ⟨v, hI⟩ hK
    obtain ⟨a, c, hva, hR⟩ := hI.own.rows
    subst hva
    have hc := hI.box.cell 0
    have hf := hI.box.frozen 0
    simp at hc
    gi_wp2
    have hs0 := hI.below.size
    have hS' : sortedL (xs.map (·.2)) = sortedL (imagesL g) := by rw [hS]
    have hO := hI.own
    rw [hS'] at hO
    have hK' : (W2.setCell ⟨W.heap.size + 1, 0, none⟩ (.slice a (sortedL (imagesL g)).length c)).heap[D]? = some (.deferred (some [])) := (Below.heap_setCell _ _ _ _ (by simp; omega)).trans hK
    have hb7 := (hI.box.set 0 (.slice a (sortedL (imagesL g)).length c)).put hK' rfl (.deferred none)
    have h7 := hb7.cell 0
    simp at h7
    refine ⟨by simp, .inl ⟨_, _, rfl, run_takeDeferred hK', ?_⟩⟩
    refine ⟨.tuple #[.slice a (sortedL (imagesL g)).length c, .int .i64 0], ?_, ?_⟩
    · simp [results, Try.results22, go_sem, h7]
    · refine ⟨_, rfl, ?_, below_put (hI.below.setCell (p := ⟨W.heap.size + 1, 0, none⟩) (by simp) _) (by omega) (by simpa using hs0) _⟩
      exact (((hO.setBox hI.box (by simp) _).put hK' rfl _)).mono (by omega)

theorem moves_any (g : Grid) (ah ac : Option Addr) (nh ch nc cc : Nat) (W : World) (h1 : Ints W ah nh ch g.holes) (h2 : Ints W ac nc cc g.cells) (hn : nh ≤ 10000000) (hm : nc ≤ 10000000000) :
    Calls Try.prog 22 #[.agg #[.int .i64 g.shape, .int .i64 g.w, .int .i64 g.h, .slice ah nh ch, .slice ac nc cc]] W (RetRowsE W 22 (movesOut g) (checkErr g)) := by
  unfold movesOut
  rcases checkErr_cases g with ⟨he, hv⟩ | ⟨he, _⟩
  · rw [if_pos he, he]; exact moves_ok g ah ac nh ch nc cc W h1 h2 hn hm he hv
  · rw [if_neg (by omega), he]; exact moves_bad g ah ac nh ch nc cc W h1 h2 hn hm he
end Go.Proofs.Ytjiacdihfbbfjaa
