/- The closure of moves.images, as an iterator. -/
import Derived.RangeFuncNested
import Derived.RangeFuncBound
import Derived.RangeFuncCalls
import Derived.RangeFuncLeaves
import Derived.Shelf.Abstract
import Derived.Shelf.RegionOpen
import Derived.WalkKit
import Derived.OwnWalkIn
import Derived.TacticsInMore
import Derived.LoopNIn
import Derived.LoopIn
import Derived.Maps.OwnIn
import Derived.Laws.MakeOwn
import Derived.Outline
import Derived.Test.YtjiacdihfbbfjaaImg
import Derived.Test.YtjiacdihfbbfjaaImgM
import Derived.Test.YtjiacdihfbbfjaaTold
import Derived.Test.YtjiacdihfbbfjaaPRow
import Derived.Test.YtjiacdihfbbfjaaPmIn
namespace Go.Proofs.Ytjiacdihfbbfjaa
open Go.RowKit Go.Shelf
attribute [local go_sem] Oper.semAt_some

abbrev Yd := (Option Addr × Nat × Nat) × List Int
def ydEnc (x : Yd) : Array Value := #[.slice x.1.1 x.1.2.1 x.1.2.2]
/-- What is so of a list that is yielded: it is new memory. -/
def ydV (x : Yd) (W0 W1 : World) : Prop := Ints W1 x.1.1 x.1.2.1 x.1.2.2 x.2 ∧ ∀ k, (Value.slice x.1.1 x.1.2.1 x.1.2.2).ownBlock = some k → W0.heap.size ≤ k

theorem fromL_get (g : Grid) (k : Nat) (h : k < g.cells.length) : (fromL g)[k]?.getD (0, 0) = placeOf g (g.cells[k]?.getD 0) := by
  unfold fromL; simp [h]
theorem from_small (g : Grid) (hw : 1 ≤ g.w ∧ g.w ≤ 16) (hc : ∀ x ∈ g.cells, 0 ≤ x ∧ x < 256) : ∀ p ∈ fromL g, small p := by
  intro p hp
  obtain ⟨c, h1, rfl⟩ := List.mem_map.1 hp
  have h2 := hc c h1
  have q1 : 0 ≤ c / g.w := Int.ediv_nonneg h2.1 (by omega)
  have q2 : c / g.w ≤ c := Int.ediv_le_self _ h2.1
  have q3 : 0 ≤ c % g.w := Int.emod_nonneg _ (by omega)
  have q4 : c % g.w < g.w := Int.emod_lt_of_pos _ (by omega)
  unfold placeOf small
  split <;> simp only <;> omega
theorem corner_mem (l : List (Int × Int)) (lo hi : Int) (h : ∀ p ∈ l, (lo ≤ p.1 ∧ p.1 ≤ hi) ∧ (lo ≤ p.2 ∧ p.2 ≤ hi)) (hne : l ≠ []) : (lo ≤ (cornerL l).1 ∧ (cornerL l).1 ≤ hi) ∧ (lo ≤ (cornerL l).2 ∧ (cornerL l).2 ≤ hi) := by
  have key : ∀ (r : List (Int × Int)) (c : Int × Int), (∀ p ∈ r, (lo ≤ p.1 ∧ p.1 ≤ hi) ∧ (lo ≤ p.2 ∧ p.2 ≤ hi)) → ((lo ≤ c.1 ∧ c.1 ≤ hi) ∧ (lo ≤ c.2 ∧ c.2 ≤ hi)) → ((lo ≤ (r.foldl cornerStep c).1 ∧ (r.foldl cornerStep c).1 ≤ hi) ∧ (lo ≤ (r.foldl cornerStep c).2 ∧ (r.foldl cornerStep c).2 ≤ hi)) := by
    intro r
    induction r with
    | nil => intro c _ h; exact h
    | cons p r ih =>
      intro c h1 h2
      refine ih _ (fun q hq => h1 q (List.mem_cons_of_mem _ hq)) ?_
      have := h1 p (List.mem_cons_self ..)
      unfold cornerStep; simp only; omega
  cases l with
  | nil => exact absurd rfl hne
  | cons p r => exact key _ _ h (h p (List.mem_cons_self ..))
theorem corner_small {l : List (Int × Int)} (h : ∀ p ∈ l, small p) (hne : l ≠ []) : small (cornerL l) := by
  have := corner_mem l (-1000) 1000 (fun p hp => by have := h p hp; unfold small at this; omega) hne
  unfold small; omega
theorem getP_mem (l : List (Int × Int)) (k : Nat) (h : k < l.length) : l[k]?.getD (0, 0) ∈ l := by simp [List.getElem?_eq_getElem h]
theorem small64_of {x y : Int} (h1 : -10000000 ≤ x ∧ x ≤ 10000000) (h2 : -10000000 ≤ y ∧ y ≤ 10000000) : small64 (x, y) := ⟨WalkArith.wf_i64 (by omega), WalkArith.wf_i64 (by omega)⟩
theorem subP_inj {p q c : Int × Int} (h : subP p c = subP q c) : p = q := by
  unfold subP at h
  simp only [Prod.mk.injEq] at h
  exact Prod.ext (by omega) (by omega)
theorem atUpto_ne {l : List (Int × Int)} (hn : l.Nodup) (c : Int × Int) {k : Nat} (hk : k < l.length) : ∀ x ∈ atUpto l c k, x.1 ≠ subP (l[k]?.getD (0, 0)) c := by
  intro x hx e
  unfold atUpto at hx
  obtain ⟨i, hi, rfl⟩ := List.mem_map.1 hx
  have hik : i < k := List.mem_range.1 hi
  have := subP_inj e
  rw [List.getElem?_eq_getElem (by omega), List.getElem?_eq_getElem hk] at this
  have h2 := (List.pairwise_iff_getElem.1 hn) i k (by omega) hk hik
  exact h2 (by simpa using this)
theorem linMap_small (s : Int) (k : Nat) (hk : k < linMany s) {p : Int × Int} (hp : small p) : ((-1000000 ≤ (linMap s k p).1 ∧ (linMap s k p).1 ≤ 1000000) ∧ (-1000000 ≤ (linMap s k p).2 ∧ (linMap s k p).2 ≤ 1000000)) := by
  unfold linMap
  split
  · unfold sqMap small at *
    obtain ⟨h1, h2, h3, h4⟩ := hp
    split <;> (try simp only) <;> omega
  · unfold hexMap
    refine turns_bd (p := if 6 ≤ k then (p.2, p.1) else p) ?_ (by omega)
    unfold small at *
    split <;> (try simp only) <;> omega
theorem toL_small (g : Grid) (hw : 1 ≤ g.w ∧ g.w ≤ 16) (hc : ∀ x ∈ g.cells, 0 ≤ x ∧ x < 256) (k : Nat) (hk : k < linMany g.shape) : ∀ p ∈ toL g k, ((-1000000 ≤ p.1 ∧ p.1 ≤ 1000000) ∧ (-1000000 ≤ p.2 ∧ p.2 ≤ 1000000)) := by
  intro p hp
  obtain ⟨p0, h0, rfl⟩ := List.mem_map.1 hp
  exact linMap_small g.shape k hk (from_small g hw hc p0 h0)
theorem Kept.of_below0 {base : Nat} {a b : World} (h : Below a.heap.size a b) : Kept base a b := Kept.of_below h
theorem PMap.of_block {w w' : World} {b : Nat} {l : List ((Int × Int) × Int)} (h : PMap w b l) (hb : w'.heap[b]? = w.heap[b]?) : PMap w' b l :=
  ⟨let ⟨es, c, h1, h2⟩ := h.has; ⟨es, c, hb.trans h1, h2⟩, h.keys, h.apart⟩
theorem PRow.grown {w w' : World} {B n : Nat} {l : List (Int × Int)} {row : Option Nat} (h : PRow w B n l) (hg : w.grownBy w' row) (hne : some B ≠ row) : PRow w' B n l := h.of_block (hg.block B h.lt hne)
theorem retPlace_pair {P : Program} {f : FuncId} {args : Array Value} {W : World} {p : Int × Int} {x y : Int} (h : Calls P f args W (RetPlace W p)) (e : p = (x, y)) : Calls P f args W fun e w' => e = .returned (.agg #[.int .i64 x, .int .i64 y]) ∧ Below W.heap.size W w' := by
  subst e; exact h
theorem PRow.get {w : World} {B n : Nat} {l : List (Int × Int)} (h : PRow w B n l) {k : Nat} (hk : k < l.length) : w.cell? ⟨B, k * 2, none⟩ = some (.int .i64 (l[k]?.getD (0, 0)).1) ∧ w.cell? ⟨B, k * 2 + 1, none⟩ = some (.int .i64 (l[k]?.getD (0, 0)).2) := by
  obtain ⟨cs, h1, _, h3⟩ := h.has
  exact ⟨by rw [h1.cell]; exact (h3 k hk).1, by rw [h1.cell]; exact (h3 k hk).2⟩
theorem info_place : (Try.prog.info? 98).map (fun i => (i.zero, i.size, i.bytes)) = some (some (.agg #[.int .i64 0, .int .i64 0]), 2, 16) := by kernel_rfl
set_option maxRecDepth 20000 in
set_option maxHeartbeats 2000000 in
theorem images1_told (g : Grid) (b : Nat) (ah ac : Option Addr) (nh ch nc cc : Nat) (W : World)
    (hb : Box W b #[.int .i64 g.shape, .int .i64 g.w, .int .i64 g.h, .slice ah nh ch, .slice ac nc cc] 24) (hI : Ints W ac nc cc g.cells) (hw : 1 ≤ g.w ∧ g.w ≤ 16) (hc : ∀ x ∈ g.cells, 0 ≤ x ∧ x < 256) (hn : 0 < nc ∧ nc ≤ 256) (hnd : (fromL g).Nodup) :
    SeqTold Fence.wide 5 Try.prog 86 #[.pointer (some ⟨b, 0, none⟩)] ydEnc ydV (fun xs => xs.map (·.2) = imagesL g) (linMany g.shape) (fun k => k = b ∨ ∃ o, ac = some ⟨k, o, none⟩) W := by
  intro l T0 J W1 hB hT hR hY h0
  have c0 : W1.cell? ⟨b, 0, none⟩ = some (.int .i64 g.shape) := by simpa using (hb.below hB).cell 0
  have c4 : W1.cell? ⟨b, 4, none⟩ = some (.slice ac nc cc) := by simpa using (hb.below hB).cell 4
  obtain ⟨ip, hip, hzp0, hzp1, hzp2⟩ := info_parts info_place
  have hmk := fun w => run_make (P := Try.prog) w 96 98 ip _ Try.underlying96 hip hzp0 .i64 .i64 nc nc (by omega) (by omega) (by rw [hzp2]; omega) (by omega)
  obtain ⟨i3, hi3, hz30, hz31, hz32⟩ := info_parts info_int
  have hmi := fun w => run_make (P := Try.prog) w 22 3 i3 _ Try.underlying22 hi3 hz30 .i64 .i64 0 nc (by omega) (by omega) (by rw [hz32]; omega) (by omega)
  simp only [Int.toNat_natCast, hzp1] at hmk
  simp only [Int.toNat_natCast, Int.toNat_zero, hz31, Nat.mul_one] at hmi
  have hbl : b < W1.heap.size := (hb.below hB).lt
  obtain ⟨lx, ly, hlow⟩ : ∃ lx ly, cornerL (fromL g) = (lx, ly) := ⟨_, _, rfl⟩
  have hlb := corner_small (from_small g hw hc) (by unfold fromL; simp; have := hI.len; intro e; rw [e] at this; simp at this; omega)
  rw [hlow] at hlb
  have HL := Lib.hid hlow
  clear hlow
  refine callsIn_of_wp Try.func86 rfl trivial ?_ rfl
  simp only [Try.ntmps86, List.size_toArray, List.length_cons, List.length_nil, Nat.reduceAdd, Nat.reduceSub, Array.replicate_succ, Array.replicate_zero, List.push_toArray, List.append_toArray, List.nil_append, List.cons_append]
  gi_wp2
  gi_loopw [28] (fun c wr => ∃ k : Nat, k ≤ nc ∧ c = .int .i64 k ∧ PRow wr W1.heap.size nc ((fromL g).take k) ∧ Below W1.heap.size W1 wr) (fun c _ => nc - (intOf c).toNat)
  case atStart => exact ⟨0, by omega, rfl, by simpa using PRow.made W1 _ nc (size_madeCells _ _), (Below.refl _ _).alloc (Nat.le_refl _) _⟩
  case round =>
    obtain ⟨k, hk, rfl, hP, hB2⟩ := hrel
    have hI2 := (hI.below hB).below hB2
    by_cases hlt : k < nc
    · obtain ⟨cb, co, rfl, hcb⟩ := hI.at' hn.1
      have hx := hI2.cell cb co rfl k hlt
      have hx0 := hc _ (getD_mem g.cells k (by rw [hI.len]; exact hlt))
      have d0 := (hb.below hB).below hB2
      have e0 : wr.cell? ⟨b, 0, none⟩ = some (.int .i64 g.shape) := by simpa using d0.cell 0
      have e1 : wr.cell? ⟨b, 1, none⟩ = some (.int .i64 g.w) := by simpa using d0.cell 1
      have e2 : wr.cell? ⟨b, 2, none⟩ = some (.int .i64 g.h) := by simpa using d0.cell 2
      have e3 : wr.cell? ⟨b, 3, none⟩ = some (.slice ah nh ch) := by simpa using d0.cell 3
      have e4 : wr.cell? ⟨b, 4, none⟩ = some (.slice (some ⟨cb, co, none⟩) nc cc) := by simpa using d0.cell 4
      gi_wp2_with (refine ⟨trivial, ?_⟩; gi_at_call 87; refine (callsIn_wide.2 (where_any g ah (some ⟨cb, co, none⟩) nh ch nc cc _ _ hw hx0)).mono ?_; rintro e w' ⟨rfl, hBw⟩; obtain ⟨u, v, f1, f2, f3, f4⟩ := (hP.below hBw).free hlt)
      go_roundw
      case rel =>
        have hp2 := (hP.below hBw).push (by rw [List.length_take]; have := hI.len; unfold fromL; simp; omega) hlt (placeOf g (g.cells[k]?.getD 0))
        refine ⟨k + 1, by omega, by go_num, ?_, ?_⟩
        · rw [takeP_getD _ _ (by unfold fromL; simp; have := hI.len; omega), show (fromL g)[k]?.getD (0, 0) = placeOf g (g.cells[k]?.getD 0) from fromL_get g k (by rw [hI.len]; exact hlt)]
          exact hp2
        · exact ((hB2.on hBw).setCell (p := ⟨W1.heap.size, k * 2, none⟩) (Nat.le_refl _) _).setCell (p := ⟨W1.heap.size, k * 2 + 1, none⟩) (Nat.le_refl _) _
      case measure => simp [intOf]; omega
    · obtain rfl : nc = k := by omega
      have hP0 : PRow wr W1.heap.size nc (fromL g) := by have h := hP; rwa [List.take_of_length_le (by unfold fromL; simp; have := hI.len; omega)] at h
      have hPl := hP0.places (by unfold fromL; simp; exact hI.len) (by unfold maxLen; omega)
      gi_wp2_with (refine ⟨trivial, ?_⟩; gi_at_call 88; refine (callsIn_wide.2 (retPlace_pair (corner_any _ _ _ _ _ hPl hn.1) HL.out)).mono ?_; rintro e w2 ⟨rfl, hBc⟩; have hmm := run_makeMap (P := Try.prog) 101 (w2.alloc (.cells #[.int .i64 lx, .int .i64 ly] 98)))
      have hP2 := hP0.below hBc
      have hB3 := hB2.on hBc
      have hW2 := hB3.size
      clear hmm
      gi_loopw [45] (fun c wr => ∃ k : Nat, k ≤ nc ∧ c = .int .i64 k ∧ PRow wr W1.heap.size nc (fromL g) ∧ Box wr w2.heap.size #[.int .i64 lx, .int .i64 ly] 98 ∧ PMap wr (w2.heap.size + 1) (atUpto (fromL g) (lx, ly) k) ∧ Below W1.heap.size W1 wr) (fun c _ => nc - (intOf c).toNat)
      case atStart =>
        refine ⟨0, by omega, rfl, (hP2.below ((Below.refl _ _).alloc (Nat.le_refl _) _)).below ((Below.refl _ _).alloc (Nat.le_refl _) _), (Box.new w2 _ _).alloc _, by simpa [atUpto] using PMap.made (w2.alloc (.cells #[.int .i64 lx, .int .i64 ly] 98)), (hB3.alloc hB3.size _).alloc (by simp; have := hB3.size; omega) _⟩
      case round =>
        clear hP hB2 hI2 hPl hP2 hBc hB3 hP0
        obtain ⟨k, hk, rfl, hP, hX, hM, hB2⟩ := hrel
        have hsz := hX.lt
        have x0 : wr.cell? ⟨w2.heap.size, 0, none⟩ = some (.int .i64 lx) := by simpa using hX.cell 0
        have x1 : wr.cell? ⟨w2.heap.size, 1, none⟩ = some (.int .i64 ly) := by simpa using hX.cell 1
        by_cases hlt : k < nc
        · obtain ⟨p0, p1⟩ := hP.get (k := k) (by unfold fromL; simp; rw [hI.len]; exact hlt)
          obtain ⟨px, py, hp⟩ : ∃ px py, (fromL g)[k]?.getD (0, 0) = (px, py) := ⟨_, _, rfl⟩
          have hps := from_small g hw hc _ (getP_mem (fromL g) k (by unfold fromL; simp; rw [hI.len]; exact hlt))
          rw [hp] at p0 p1 hps
          simp only at p0 p1
          obtain ⟨s1, s2, s3, s4⟩ := hps
          obtain ⟨t1, t2, t3, t4⟩ := hlb
          simp only at s1 s2 s3 s4 t1 t2 t3 t4
          have HP := Lib.hid hp
          clear hp
          have hal : Below wr.heap.size wr (wr.alloc (.cells #[.int .i64 px, .int .i64 py] 98)) := (Below.refl _ _).alloc (Nat.le_refl _) _
          obtain ⟨w3, hrun, hM3, hg3, hs3⟩ := (hM.below hal).put (px - lx, py - ly) k (small64_of (by omega) (by omega)) (by
            have h := atUpto_ne hnd (lx, ly) (k := k) (by unfold fromL; simp; rw [hI.len]; exact hlt)
            rw [HP.out] at h; exact h)
          simp only [pv] at hrun
          gi_wp2
          clear hrun
          go_roundw
          case rel =>
            have h1 := (hP.below hal).grown hg3 (by simp; omega)
            have h2 := (hX.alloc (.cells #[.int .i64 px, .int .i64 py] 98)).grown hg3 (by simp)
            refine ⟨k + 1, by omega, by go_num, h1, h2, ?_, (hB2.alloc hB2.size _).grown hg3 (by simp; have := hB2.size; omega) (fun q e => by simp at e; omega)⟩
            rw [atUpto_succ, HP.out]; exact hM3
          case measure => simp [intOf]; omega
        · obtain rfl : nc = k := by omega
          have hb4 := (hb.below hB).below hB2
          have e0 : wr.cell? ⟨b, 0, none⟩ = some (.int .i64 g.shape) := by simpa using hb4.cell 0
          gi_wp2_with (refine ⟨trivial, ?_⟩; gi_at_call 89; refine (callsIn_wide.2 (maps_any g.shape _)).mono ?_; rintro e w4 ⟨fa, fc, rfl, hF, hBm⟩)
          have hPm := hP.below hBm
          have hat : atUpto (fromL g) (lx, ly) nc = atL g := by unfold atL; rw [HL.out, hI.len]
          have hMm := hM.below hBm
          rw [hat] at hMm
          clear hat
          have hB5 := hB2.on hBm
          have hs2 := hB2.size
          have hs5 := hBm.size
          have hbm := hb4.below hBm
          have hMlt := hM.lt
          clear hP hM hB2 hX x0 x1 hb4 e0 hBm
          obtain ⟨wm, rfl⟩ : ∃ wm, wm = wr := ⟨_, rfl⟩
          have hlm : linMany g.shape ≤ 12 := by unfold linMany; split <;> omega
          gi_loopw [68] (fun c w5 => ∃ (k : Nat) (T : Nat → Prop) (pre : List Yd) (W0 : World), k ≤ linMany g.shape ∧ c = .int .i64 k ∧ J T pre W0 ∧ Below W0.heap.size W0 w5 ∧ Hid (pre.map (·.2) = imagesUpto g k) ∧ (∀ q, T q → T0 q ∨ w4.heap.size ≤ q) ∧ Hid (∀ q, q < w4.heap.size → ¬ T0 q → w5.heap[q]? = w4.heap[q]?) ∧ w4.heap.size ≤ w5.heap.size) (fun c _ => linMany g.shape - (intOf c).toNat)
          case atStart => exact ⟨0, T0, [], W1, by omega, rfl, h0, by simpa using hB5, Lib.hid (by simp [imagesUpto]), fun q h => .inl h, Lib.hid (fun _ _ _ => rfl), Nat.le_refl _⟩
          case round =>
            clear hlt hk
            obtain ⟨k, T, pre, W0, hk, rfl, hJ, hB0, HI, hTq, HK, hs6⟩ := hrel
            by_cases hlt : k < linMany g.shape
            · obtain ⟨fb, fo, rfl, hfb, hfb2⟩ := hF.at' (by omega)
              obtain ⟨v, hv, f, caps, rfl, hen, hcall⟩ := hF.fn fb fo rfl k hlt
              unfold Enters at hen
              have hT0 : ∀ q, T0 q → q < W1.heap.size := hT
              have hkk : Kept wm.heap.size w4 wr := ⟨hs6, fun q h1 h2 => HK.out q h2 (fun h => by have := hT0 q h; omega)⟩
              have hv5 : wr.cell? ⟨fb, fo + k, none⟩ = some (.func (.func f) #[] caps) := (World.cell?_of_block (w := w4) (HK.out fb hfb (fun h => by have := hT0 _ h; omega))).trans hv
              have hP5 : PRow wr W1.heap.size nc (fromL g) := hPm.of_block (HK.out _ hPm.lt (fun h => by have := hT0 _ h; omega))
              have hM5 : PMap wr (w2.heap.size + 1) (atL g) := hMm.of_block (HK.out _ hMm.lt (fun h => by have := hT0 _ h; omega))
              obtain ⟨wo, rfl⟩ : ∃ wo, wo = wr := ⟨_, rfl⟩
              gi_wp2
              gi_loopw [77] (fun c wr => ∃ j : Nat, j ≤ nc ∧ c = .int .i64 j ∧ PRow wr wo.heap.size nc ((toL g k).take j) ∧ Below wo.heap.size wo wr) (fun c _ => nc - (intOf c).toNat)
              case atStart => exact ⟨0, by omega, rfl, by simpa using PRow.made wo _ nc (size_madeCells _ _), (Below.refl _ _).alloc (Nat.le_refl _) _⟩
              case round =>
                obtain ⟨j, hj, rfl, hP, hB6⟩ := hrel
                have hP6 := hP5.below hB6
                by_cases hjt : j < nc
                · have hjl : j < (fromL g).length := by unfold fromL; simp; rw [hI.len]; exact hjt
                  obtain ⟨p0, p1⟩ := hP6.get (k := j) hjl
                  obtain ⟨px, py, hp⟩ : ∃ px py, (fromL g)[j]?.getD (0, 0) = (px, py) := ⟨_, _, rfl⟩
                  have hps := from_small g hw hc _ (getP_mem (fromL g) j hjl)
                  rw [hp] at p0 p1 hps
                  simp only at p0 p1
                  have HP := Lib.hid hp
                  clear hp
                  have hal : Below wr.heap.size wr (wr.alloc (.cells #[.int .i64 px, .int .i64 py] 98)) := (Below.refl _ _).alloc (Nat.le_refl _) _
                  obtain ⟨qx, qy, hq⟩ : ∃ qx qy, linMap g.shape k (px, py) = (qx, qy) := ⟨_, _, rfl⟩
                  have HQ := Lib.hid hq
                  clear hq
                  have hkj : Kept wm.heap.size w4 (wr.alloc (.cells #[.int .i64 px, .int .i64 py] 98)) := (hkk.trans ⟨hB6.size, fun q _ h2 => hB6.block q h2⟩).trans (Kept.of_below hal)
                  gi_wp2_with (refine ⟨trivial, ?_⟩; (try simp only [hen]); refine (callsIn_wide.2 (retPlace_pair (hcall _ hkj px py hps) HQ.out)).mono ?_; rintro e w7 ⟨rfl, hBw⟩; obtain ⟨u, v, f1, f2, f3, f4⟩ := (hP.below (hal.on hBw)).free hjt)
                  go_roundw
                  case rel =>
                    refine ⟨j + 1, by omega, by go_num, ?_, ?_⟩
                    · rw [takeP_getD _ _ (by rw [toL_len, hI.len]; exact hjt), toL_get g k j hjl, HP.out, HQ.out]
                      exact (hP.below (hal.on hBw)).push (by rw [List.length_take, toL_len, hI.len]; omega) hjt (qx, qy)
                    · exact ((hB6.on (hal.on hBw)).setCell (p := ⟨wo.heap.size, j * 2, none⟩) (Nat.le_refl _) _).setCell (p := ⟨wo.heap.size, j * 2 + 1, none⟩) (Nat.le_refl _) _
                  case measure => simp [intOf]; omega
                · obtain rfl : nc = j := by omega
                  have hPt : PRow wr wo.heap.size nc (toL g k) := by have h := hP; rwa [List.take_of_length_le (by rw [toL_len, hI.len]; exact Nat.le_refl _)] at h
                  have hPl := hPt.places (by rw [toL_len]; exact hI.len) (by unfold maxLen; omega)
                  obtain ⟨cx, cy, hcl⟩ : ∃ cx cy, cornerL (toL g k) = (cx, cy) := ⟨_, _, rfl⟩
                  have hcb := corner_mem (toL g k) (-1000000) 1000000 (toL_small g hw hc k hlt) (by intro e; have h := toL_len g k; rw [e] at h; have := hI.len; simp at h; omega)
                  rw [hcl] at hcb
                  have HC := Lib.hid hcl
                  clear hcl
                  gi_wp2_with (refine ⟨trivial, ?_⟩; gi_at_call 88; refine (callsIn_wide.2 (retPlace_pair (corner_any _ _ _ _ _ hPl hn.1) HC.out)).mono ?_; rintro e w8 ⟨rfl, hBc⟩)
                  have hPt8 := hPt.below hBc
                  have hB8 := hB6.on hBc
                  have hM8 := hM5.below hB8
                  have hlt8 := hPt8.lt
                  have hs8 := hB8.size
                  clear hP hPl hPt hBc hB6
                  gi_loopw [16, 96] (fun v c wr => ∃ j : Nat, j ≤ nc ∧ c = .int .i64 j ∧ OwnInts wr (w8.heap.size + 1) 3 v (imgUpto (atL g) (toL g k) (cx, cy) j) ∧ Below (w8.heap.size + 1) (w8.alloc (.cells #[.int .i64 cx, .int .i64 cy] 98)) wr) (fun _ c _ => nc - (intOf c).toNat)
                  case atStart => exact ⟨0, by omega, rfl, by simpa [imgUpto, OwnInts] using World.ownsRow_made (w8.alloc _) _ nc (by simp) (by unfold maxLen; omega) (by simp [size_madeCells]), (Below.refl _ _).alloc (by simp) _⟩
                  case round =>
                    obtain ⟨j, hj, rfl, hO, hB9⟩ := hrel
                    have hs9 := hB9.size
                    simp only [World.size_alloc] at hs9
                    have hlt9 : w8.heap.size < wr.heap.size := by omega
                    have hall : Hid (∀ q, q < w8.heap.size → wr.heap[q]? = w8.heap[q]?) := Lib.hid fun q hq => (hB9.block q (by omega)).trans (Below.heap_alloc w8 _ q hq)
                    have hCx : Box wr w8.heap.size #[.int .i64 cx, .int .i64 cy] 98 := (hB9.block _ (by omega)).trans (Box.new w8 _ _)
                    have hPt := hPt8.of_block (hall.out _ hlt8)
                    have hM := hM8.of_block (hall.out _ (by omega))
                    have c0 : wr.cell? ⟨w8.heap.size, 0, none⟩ = some (.int .i64 cx) := by simpa using hCx.cell 0
                    have c1 : wr.cell? ⟨w8.heap.size, 1, none⟩ = some (.int .i64 cy) := by simpa using hCx.cell 1
                    have hjle := imgUpto_le (atL g) (toL g k) (cx, cy) j
                    by_cases hjt : j < nc
                    · have hjl : j < (toL g k).length := by rw [toL_len, hI.len]; exact hjt
                      obtain ⟨p0, p1⟩ := hPt.get (k := j) hjl
                      obtain ⟨px, py, hp⟩ : ∃ px py, (toL g k)[j]?.getD (0, 0) = (px, py) := ⟨_, _, rfl⟩
                      have hpb := toL_small g hw hc k hlt _ (getP_mem _ j hjl)
                      rw [hp] at p0 p1 hpb
                      simp only at p0 p1 hpb
                      have hsub : subP ((toL g k)[j]?.getD (0, 0)) (cx, cy) = (px - cx, py - cy) := by rw [hp]; rfl
                      have HS := Lib.hid (imgUpto_succ (atL g) (toL g k) (cx, cy) j hjl)
                      rw [hsub] at HS
                      clear hp hsub
                      have hal : Below wr.heap.size wr (wr.alloc (.cells #[.int .i64 px, .int .i64 py] 98)) := (Below.refl _ _).alloc (Nat.le_refl _) _
                      have hrun := (hM.below hal).look (px - cx, py - cy) (small64_of (by omega) (by omega))
                      obtain ⟨hpb1, hpb2⟩ := hpb
                      obtain ⟨hcb1, hcb2⟩ := hcb
                      simp only [pv] at hrun
                      cases hlk : lookP (atL g) (px - cx, py - cy) with
                      | none =>
                        rw [hlk] at hrun HS
                        simp only [Option.getD_none, Option.isSome_none] at hrun
                        clear hlk
                        clear hjle hall
                        gi_wp2
                        clear hrun
                        go_roundw
                        case rel => exact ⟨j + 1, by omega, by go_num, by rw [HS.out]; simpa using hO.below hal, hB9.alloc (by omega) _⟩
                        case measure => simp [intOf]; omega
                      | some i =>
                        rw [hlk] at hrun HS
                        simp only [Option.getD_some, Option.isSome_some] at hrun
                        clear hlk
                        gi_wp2_with (gi_at_builtin; refine wpListIn_append_own _ rfl _ _ 22 rfl (w8.heap.size + 1) 3 i3 (.int .i64 0) 1 8 Try.underlying22 hi3 hz30 hz31 hz32 rfl (by decide) _ _ _ rfl ((hO.alloc _).alloc _) ⟨wr.heap.size + 1, 0, none⟩ 1 1 [.int .i64 i] rfl rfl (cell_one_at _ _ _ _ (by simp)) (by simp [Value.oneCell']) (by unfold maxLen; omega) (by omega) (by simp; omega) ?_; intro v' w1 hown' hgrow _)
                        clear hrun
                        go_roundw
                        case rel =>
                          refine ⟨j + 1, by omega, by go_num, by rw [HS.out]; exact OwnInts.snoc hown', ?_⟩
                          exact ((hB9.alloc (by omega) _).alloc (by simp; omega) _).grown hgrow (by simp; omega) (fun q e => (hO.lt q e).1)
                        case measure => simp [intOf]; omega
                    · obtain rfl : nc = j := by omega
                      have hE : imgUpto (atL g) (toL g k) (cx, cy) nc = imgL g k := by
                        have h := imgUpto_end (atL g) (toL g k) (cx, cy) HC.out
                        rw [toL_len, hI.len] at h; exact h
                      rw [hE] at hO
                      clear hE hjle hall c0 c1
                      have hBX : Below wo.heap.size wo wr := (hB8.alloc hs8 _).trans (hB9.mono (by omega))
                      obtain ⟨a, c, rfl, hIx⟩ := hO.ints
                      have hbase := hO.lt
                      by_cases hlen : (imgL g k).length = nc
                      · rw [hlen] at hIx hbase ⊢
                        obtain ⟨fn, tmps, assign, body, hy, hR'⟩ := hY T pre ((a, nc, c), imgL g k) W0 wr hJ (hB0.on hBX) ⟨hIx, fun q e => by have := (hbase q e).1; have := hB0.size; omega⟩ (by
                          have h1 := congrArg List.length HI.out
                          have h2 := imagesUpto_le g k
                          simp only [List.length_map] at h1; omega)
                        simp only [ydEnc] at hy
                        have HLN := Lib.hid hlen
                        clear hlen
                        gi_wp2
                        refine hR'.mono ?_
                        rintro e W' ⟨rfl, T', hRK, hJ'⟩
                        clear hy hR'
                        gi_wp2
                        go_roundw
                        case rel =>
                          have hw4 : w4.heap.size ≤ wr.heap.size := Nat.le_trans hs6 hBX.size
                          refine ⟨k + 1, T', _, W', by omega, by go_num, hJ', Below.refl _ _, Lib.hid ?_, ?_, Lib.hid ?_, Nat.le_trans hw4 hRK.size⟩
                          · rw [imagesUpto_succ, if_pos (by rw [HLN.out, hI.len]), List.map_append, HI.out]; rfl
                          · intro q hq
                            rcases hRK.own q hq with h | h
                            · exact hTq q h
                            · exact .inr (by omega)
                          · intro q h1 h2
                            rw [hRK.same q (by omega) (fun h => (hTq q h).elim h2 (fun h3 => by omega)), hBX.block q (by omega)]
                            exact HK.out q h1 h2
                        case measure => simp [intOf]; omega
                      · have te : (((imgL g k).length : Int) == (nc : Int)) = false := by rw [beq_eq_false_iff_ne]; omega
                        have HLN := Lib.hid hlen
                        clear hlen
                        gi_wp2
                        refine ⟨fun _ h => (by cases h), ?_⟩
                        gi_wp2
                        go_roundw
                        case rel =>
                          refine ⟨k + 1, T, pre, W0, by omega, by go_num, hJ, hB0.on hBX, Lib.hid ?_, hTq, Lib.hid ?_, Nat.le_trans hs6 hBX.size⟩
                          · rw [imagesUpto_succ, if_neg (by rw [hI.len]; exact HLN.out), List.append_nil]; exact HI.out
                          · intro q h1 h2
                            rw [hBX.block q (by omega)]; exact HK.out q h1 h2
                        case measure => simp [intOf]; omega
            · obtain rfl : linMany g.shape = k := by omega
              gi_wp2
              go_end0
              exact ⟨⟨_, rfl⟩, T, pre, W0, HI.out, hJ, hB0⟩
end Go.Proofs.Ytjiacdihfbbfjaa
