/- Contracts of law13.few, law13.in, and the calls at literal arguments. -/
import Derived.Test.YtjiacdihfbbfjaaLit
import Derived.Test.YtjiacdihfbbfjaaFams
import Derived.Test.YtjiacdihfbbfjaaRFams
import Derived.Test.YtjiacdihfbbfjaaRegs
import Derived.WalkKit
import Derived.WalkSpells
import Derived.WalkLawsBesides
import Derived.Deep.LoopGhost
import Derived.Deep.QuietTactic
import Derived.BigQuiet
import Derived.StillTailTactics
import Derived.Lib.Hide
import Derived.Outline
import Derived.Lib.QuietBelow
namespace Go.Proofs.Ytjiacdihfbbfjaa
open Go.RowKit

def fewG13 (g : Grid) : Bool := decide (g.holes.length ≤ 300) && decide (g.cells.length ≤ 300)
set_option maxRecDepth 10000 in
set_option maxHeartbeats 1000000 in
theorem few13_any (g : Grid) (ah ac : Option Addr) (nh ch nc cc : Nat) (W : World) (h1 : Ints W ah nh ch g.holes) (h2 : Ints W ac nc cc g.cells) :
    Calls Try.prog 37 #[.agg #[.int .i64 g.shape, .int .i64 g.w, .int .i64 g.h, .slice ah nh ch, .slice ac nc cc]] W fun e w' => e = .returned (.bool (fewG13 g)) ∧ Below W.heap.size W w' := by
  have hm1 := h1.mx
  have hc1 := h1.cap
  have hm2 := h2.mx
  have hc2 := h2.cap
  unfold maxLen at hm1 hm2
  have HF : Hid (fewG13 g = (decide (nh ≤ 300) && decide (nc ≤ 300))) := Lib.hid (by unfold fewG13; rw [h1.len, h2.len])
  by_cases hc : nh ≤ 300
  · have t0 : decide ((nh : Int) ≤ 300) = true := by simp; omega
    have t1 : decide (nh ≤ 300) = true := by simp; omega
    rw [t1] at HF
    clear hc
    go_enter Try.func37, Try.ntmps37
    go_wp2_with fail
    go_ret
    refine ⟨ret_bool ?_, (by repeat (first | (with_reducible exact Below.refl _ _) | (with_reducible assumption) | (with_reducible refine below_drewN ?_ _) | ((with_reducible refine Below.setCell ?_ ?_ _); rotate_left; focus (first | (simp; done) | (simp; omega) | omega)) | ((with_reducible refine Below.alloc ?_ ?_ _); rotate_left; focus (first | (simp; done) | (simp; omega) | omega)) | (with_reducible refine Below.drew ?_)))⟩
    rw [HF.out]; simp; omega
  · have t0 : decide ((nh : Int) ≤ 300) = false := by simp; omega
    have t1 : decide (nh ≤ 300) = false := by simp; omega
    rw [t1] at HF
    clear hc
    go_enter Try.func37, Try.ntmps37
    go_wp2_with fail
    go_ret
    refine ⟨ret_bool ?_, (by repeat (first | (with_reducible exact Below.refl _ _) | (with_reducible assumption) | (with_reducible refine below_drewN ?_ _) | ((with_reducible refine Below.setCell ?_ ?_ _); rotate_left; focus (first | (simp; done) | (simp; omega) | omega)) | ((with_reducible refine Below.alloc ?_ ?_ _); rotate_left; focus (first | (simp; done) | (simp; omega) | omega)) | (with_reducible refine Below.drew ?_)))⟩
    rw [HF.out]; simp
set_option maxRecDepth 20000 in
set_option maxHeartbeats 1000000 in
theorem sameGrid_any (g : Grid) (ah ac : Option Addr) (nh ch nc cc : Nat) (ah' ac' : Option Addr) (nh' ch' nc' cc' : Nat) (W : World) (h1 : Ints W ah nh ch g.holes) (h2 : Ints W ac nc cc g.cells) (h1' : Ints W ah' nh' ch' g.holes) (h2' : Ints W ac' nc' cc' g.cells) :
    Calls Try.prog 42 #[.agg #[.int .i64 g.shape, .int .i64 g.w, .int .i64 g.h, .slice ah nh ch, .slice ac nc cc], .agg #[.int .i64 g.shape, .int .i64 g.w, .int .i64 g.h, .slice ah' nh' ch', .slice ac' nc' cc']] W fun e w' => e = .returned (.bool true) ∧ Below W.heap.size W w' := by
  have hal : Below W.heap.size W ((W.alloc (.cells #[.int .i64 g.shape, .int .i64 g.w, .int .i64 g.h, .slice ah nh ch, .slice ac nc cc] 24)).alloc (.cells #[.int .i64 g.shape, .int .i64 g.w, .int .i64 g.h, .slice ah' nh' ch', .slice ac' nc' cc'] 24)) := ((Below.refl _ _).alloc (Nat.le_refl _) _).alloc (by simp) _
  have hs1 := same13_any ah ah' nh ch nh' ch' g.holes g.holes _ (h1.below hal) (h1'.below hal)
  have hs2 := fun k => same13_any ac ac' nc cc nc' cc' g.cells g.cells _ ((h2.below hal).drewN k) ((h2'.below hal).drewN k)
  have e1 : ∀ l : List Int, eqL l l = true := fun l => by simp [eqL]
  rw [e1] at hs1
  simp only [e1] at hs2
  have HS1 := Lib.hid hs1
  have HS2 := Lib.hid hs2
  have t0 : (g.shape == g.shape) = true := by simp
  have t1 : (g.w == g.w) = true := by simp
  have t2 : (g.h == g.h) = true := by simp
  clear hs1 hs2 e1
  go_enter Try.func42, Try.ntmps42
  go_wp2_with fail
  refine HS1.out.mono ?_
  rintro e w1 ⟨rfl, q, rfl⟩
  go_wp2_with fail
  refine (HS2.out q).mono ?_
  rintro e w2 ⟨rfl, q2, rfl⟩
  go_wp2_with fail
  go_ret
  exact ⟨rfl, below_drewN hal _⟩
theorem make_some {s w h : Int} {a : Option Addr} {n c : Nat} {l : List Int} {g : Grid} {W : World} (hI : Ints W a n c l) (hn : n ≤ 10000000) (e : makeL s w h l = some g) :
    Calls Try.prog 38 #[.int .i64 s, .int .i64 w, .int .i64 h, .slice a n c] W fun e w' => ∃ v, e = .returned (.tuple #[v, .int .i64 0]) ∧ GridF w' W.heap.size v g ∧ Below W.heap.size W w' := ret_some (gridsMake_any s w h a n c l W hI hn) e
theorem make_none {s w h : Int} {a : Option Addr} {n c : Nat} {l : List Int} {W : World} (hI : Ints W a n c l) (hn : n ≤ 10000000) (e : makeL s w h l = none) :
    Calls Try.prog 38 #[.int .i64 s, .int .i64 w, .int .i64 h, .slice a n c] W fun e w' => ∃ v, e = .returned (.tuple #[v, .int .i64 130]) ∧ GridF w' W.heap.size v zeroGrid ∧ Below W.heap.size W w' := ret_none (gridsMake_any s w h a n c l W hI hn) e
theorem san1 : ∃ g : Grid, makeL 1 2 2 [3] = some g ∧ g.cells = [0, 1, 2] ∧ (regOut g [[2, 0]] = [[2, 0]] ∧ regErr g [[2, 0]] = 0) ∧ (regOut g [[3]] = [] ∧ regErr g [[3]] = 130) ∧ (famOut g 8 = [] ∧ famErr g 8 = 1) ∧ cellOut g 3 = (0, false) :=
  ⟨⟨1, 2, 2, [3], [0, 1, 2]⟩, by kernel_rfl, rfl, ⟨by kernel_rfl, by kernel_rfl⟩, ⟨by kernel_rfl, by kernel_rfl⟩, ⟨by kernel_rfl, by kernel_rfl⟩, by kernel_rfl⟩
theorem san2 : makeL 2 1 1 [0] = none := by kernel_rfl
theorem san3 : ∃ g : Grid, makeL 2 2 2 [] = some g ∧ (nbOut g = [[1, 2], [0, 2, 3], [0, 1, 3], [1, 2]] ∧ checkErr g = 0) ∧ (famOut g 3 = [[0], [1, 2], [3]] ∧ famErr g 3 = 0) :=
  ⟨⟨2, 2, 2, [], [0, 1, 2, 3]⟩, by kernel_rfl, ⟨by kernel_rfl, by kernel_rfl⟩, ⟨by kernel_rfl, by kernel_rfl⟩⟩
end Go.Proofs.Ytjiacdihfbbfjaa

/- The chapter's examples: law13.sane answers true. -/
namespace Go.Proofs.Ytjiacdihfbbfjaa
open Go.RowKit

theorem sameLists_lit {W : World} {a a' : Option Addr} {n c n' c' : Nat} {x y : List (List Int)} (h : Rows W a n c x) (h' : Rows W a' n' c' y) (e : x = y) : Calls Try.prog 49 #[.slice a n c, .slice a' n' c'] W fun e w' => e = .returned (.bool true) ∧ ∃ k, w' = W.drewN k := by
  have := samelists_any a a' n c n' c' x y W h h'
  subst e
  simpa [eqLL] using this
theorem same13_lit {W : World} {a a' : Option Addr} {n c n' c' : Nat} {x y : List Int} (h : Ints W a n c x) (h' : Ints W a' n' c' y) (e : x = y) : Calls Try.prog 54 #[.slice a n c, .slice a' n' c'] W fun e w' => e = .returned (.bool true) ∧ ∃ k, w' = W.drewN k := by
  have := same13_any a a' n c n' c' x y W h h'
  subst e
  simpa [eqL] using this
theorem lit_after (w : World) (o : Obj) (l : List Int) {n : Nat} (hn : l.length = n) (h : l.length ≤ 1000) : Ints ((w.alloc o).alloc (.cells (l.map (Value.int .i64)).toArray 3)) (some ⟨w.heap.size + 1, 0, none⟩) n n l := by
  subst hn
  have b := ints_lit l (Box.new (w.alloc o) (l.map (Value.int .i64)).toArray 3) rfl (by omega)
  simpa using b
theorem alloc2_below (w : World) (o o' : Obj) : Below w.heap.size w ((w.alloc o).alloc o') := ((Below.refl _ _).alloc (Nat.le_refl _) _).alloc (by simp) _
theorem rows_box {w : World} {B : Nat} {us : Array Value} (ll : List (List Int)) {n : Nat} (h : Box w B us 22) (hn : ll.length = n) (hs : n ≤ 1000000) (hr : ∀ i, i < n → ∃ a n c, us[i]? = some (.slice a n c) ∧ Ints w a n c (ll[i]?.getD [])) : Rows w (some ⟨B, 0, none⟩) n n ll := by
  refine ⟨hn, Nat.le_refl _, by unfold maxLen; omega, fun _ => ⟨B, 0, rfl, h.lt⟩, fun b o e i hi => ?_⟩
  obtain ⟨rfl, rfl⟩ : B = b ∧ 0 = o := by simpa using e
  obtain ⟨a, m, c, h1, h2⟩ := hr i hi
  exact ⟨a, m, c, by rw [Nat.zero_add, h.cell]; exact h1, h2⟩
theorem rows13_1 (w : World) (l0 : List Int) {n0 : Nat} (e0 : l0.length = n0) (h0 : l0.length ≤ 1000) :
    Rows ((w.alloc (Obj.cells ((l0).map (Value.int .i64)).toArray 3)).alloc (.cells #[.slice (some ⟨w.heap.size, 0, none⟩) n0 n0] 22)) (some ⟨w.heap.size + 1, 0, none⟩) 1 1 [l0] ∧ Below w.heap.size w ((w.alloc (Obj.cells ((l0).map (Value.int .i64)).toArray 3)).alloc (.cells #[.slice (some ⟨w.heap.size, 0, none⟩) n0 n0] 22)) := by
  subst e0
  have b0 := ints_lit l0 (Box.new w (l0.map (Value.int .i64)).toArray 3) rfl (by omega)
  have A : ∀ (w : World) o, Below w.heap.size w (w.alloc o) := fun w o => (Below.refl _ _).alloc (Nat.le_refl _) _
  have bx := Box.new (w.alloc (Obj.cells ((l0).map (Value.int .i64)).toArray 3)) #[.slice (some ⟨w.heap.size, 0, none⟩) l0.length l0.length] 22
  simp only [World.size_alloc] at bx
  refine ⟨rows_box [l0] bx rfl (by omega) fun i hi => ?_, (A w _).on (A _ _)⟩
  obtain rfl : i = 0 := by omega
  exact ⟨_, _, _, rfl, b0.below (A _ _)⟩
theorem rows13_3 (w : World) (l0 l1 l2 : List Int) {n0 n1 n2 : Nat} (e0 : l0.length = n0) (e1 : l1.length = n1) (e2 : l2.length = n2) (h0 : l0.length ≤ 1000) (h1 : l1.length ≤ 1000) (h2 : l2.length ≤ 1000) :
    Rows ((((w.alloc (Obj.cells ((l0).map (Value.int .i64)).toArray 3)).alloc (Obj.cells ((l1).map (Value.int .i64)).toArray 3)).alloc (Obj.cells ((l2).map (Value.int .i64)).toArray 3)).alloc (.cells #[.slice (some ⟨w.heap.size, 0, none⟩) n0 n0, .slice (some ⟨w.heap.size + 1, 0, none⟩) n1 n1, .slice (some ⟨w.heap.size + 1 + 1, 0, none⟩) n2 n2] 22)) (some ⟨w.heap.size + 1 + 1 + 1, 0, none⟩) 3 3 [l0, l1, l2]
      ∧ Below w.heap.size w ((((w.alloc (Obj.cells ((l0).map (Value.int .i64)).toArray 3)).alloc (Obj.cells ((l1).map (Value.int .i64)).toArray 3)).alloc (Obj.cells ((l2).map (Value.int .i64)).toArray 3)).alloc (.cells #[.slice (some ⟨w.heap.size, 0, none⟩) n0 n0, .slice (some ⟨w.heap.size + 1, 0, none⟩) n1 n1, .slice (some ⟨w.heap.size + 1 + 1, 0, none⟩) n2 n2] 22)) := by
  subst e0 e1 e2
  have A : ∀ (w : World) o, Below w.heap.size w (w.alloc o) := fun w o => (Below.refl _ _).alloc (Nat.le_refl _) _
  have b0 := ints_lit l0 (Box.new w (l0.map (Value.int .i64)).toArray 3) rfl (by omega)
  have b1 := ints_lit l1 (Box.new (w.alloc (Obj.cells ((l0).map (Value.int .i64)).toArray 3)) (l1.map (Value.int .i64)).toArray 3) rfl (by omega)
  have b2 := ints_lit l2 (Box.new ((w.alloc (Obj.cells ((l0).map (Value.int .i64)).toArray 3)).alloc (Obj.cells ((l1).map (Value.int .i64)).toArray 3)) (l2.map (Value.int .i64)).toArray 3) rfl (by omega)
  have bx := Box.new (((w.alloc (Obj.cells ((l0).map (Value.int .i64)).toArray 3)).alloc (Obj.cells ((l1).map (Value.int .i64)).toArray 3)).alloc (Obj.cells ((l2).map (Value.int .i64)).toArray 3)) #[.slice (some ⟨w.heap.size, 0, none⟩) l0.length l0.length, .slice (some ⟨w.heap.size + 1, 0, none⟩) l1.length l1.length, .slice (some ⟨w.heap.size + 1 + 1, 0, none⟩) l2.length l2.length] 22
  simp only [World.size_alloc] at b1 b2 bx
  refine ⟨rows_box [l0, l1, l2] bx rfl (by omega) fun i hi => ?_, (((A w _).on (A _ _)).on (A _ _)).on (A _ _)⟩
  obtain rfl | rfl | rfl : i = 0 ∨ i = 1 ∨ i = 2 := by omega
  · exact ⟨_, _, _, rfl, ((b0.below (A _ _)).below (A _ _)).below (A _ _)⟩
  · exact ⟨_, _, _, rfl, (b1.below (A _ _)).below (A _ _)⟩
  · exact ⟨_, _, _, rfl, b2.below (A _ _)⟩
theorem rows13_4 (w : World) (l0 l1 l2 l3 : List Int) {n0 n1 n2 n3 : Nat} (e0 : l0.length = n0) (e1 : l1.length = n1) (e2 : l2.length = n2) (e3 : l3.length = n3) (h0 : l0.length ≤ 1000) (h1 : l1.length ≤ 1000) (h2 : l2.length ≤ 1000) (h3 : l3.length ≤ 1000) :
    Rows (((((w.alloc (Obj.cells ((l0).map (Value.int .i64)).toArray 3)).alloc (Obj.cells ((l1).map (Value.int .i64)).toArray 3)).alloc (Obj.cells ((l2).map (Value.int .i64)).toArray 3)).alloc (Obj.cells ((l3).map (Value.int .i64)).toArray 3)).alloc (.cells #[.slice (some ⟨w.heap.size, 0, none⟩) n0 n0, .slice (some ⟨w.heap.size + 1, 0, none⟩) n1 n1, .slice (some ⟨w.heap.size + 1 + 1, 0, none⟩) n2 n2, .slice (some ⟨w.heap.size + 1 + 1 + 1, 0, none⟩) n3 n3] 22)) (some ⟨w.heap.size + 1 + 1 + 1 + 1, 0, none⟩) 4 4 [l0, l1, l2, l3]
      ∧ Below w.heap.size w (((((w.alloc (Obj.cells ((l0).map (Value.int .i64)).toArray 3)).alloc (Obj.cells ((l1).map (Value.int .i64)).toArray 3)).alloc (Obj.cells ((l2).map (Value.int .i64)).toArray 3)).alloc (Obj.cells ((l3).map (Value.int .i64)).toArray 3)).alloc (.cells #[.slice (some ⟨w.heap.size, 0, none⟩) n0 n0, .slice (some ⟨w.heap.size + 1, 0, none⟩) n1 n1, .slice (some ⟨w.heap.size + 1 + 1, 0, none⟩) n2 n2, .slice (some ⟨w.heap.size + 1 + 1 + 1, 0, none⟩) n3 n3] 22)) := by
  subst e0 e1 e2 e3
  have A : ∀ (w : World) o, Below w.heap.size w (w.alloc o) := fun w o => (Below.refl _ _).alloc (Nat.le_refl _) _
  have b0 := ints_lit l0 (Box.new w (l0.map (Value.int .i64)).toArray 3) rfl (by omega)
  have b1 := ints_lit l1 (Box.new (w.alloc (Obj.cells ((l0).map (Value.int .i64)).toArray 3)) (l1.map (Value.int .i64)).toArray 3) rfl (by omega)
  have b2 := ints_lit l2 (Box.new ((w.alloc (Obj.cells ((l0).map (Value.int .i64)).toArray 3)).alloc (Obj.cells ((l1).map (Value.int .i64)).toArray 3)) (l2.map (Value.int .i64)).toArray 3) rfl (by omega)
  have b3 := ints_lit l3 (Box.new (((w.alloc (Obj.cells ((l0).map (Value.int .i64)).toArray 3)).alloc (Obj.cells ((l1).map (Value.int .i64)).toArray 3)).alloc (Obj.cells ((l2).map (Value.int .i64)).toArray 3)) (l3.map (Value.int .i64)).toArray 3) rfl (by omega)
  have bx := Box.new ((((w.alloc (Obj.cells ((l0).map (Value.int .i64)).toArray 3)).alloc (Obj.cells ((l1).map (Value.int .i64)).toArray 3)).alloc (Obj.cells ((l2).map (Value.int .i64)).toArray 3)).alloc (Obj.cells ((l3).map (Value.int .i64)).toArray 3)) #[.slice (some ⟨w.heap.size, 0, none⟩) l0.length l0.length, .slice (some ⟨w.heap.size + 1, 0, none⟩) l1.length l1.length, .slice (some ⟨w.heap.size + 1 + 1, 0, none⟩) l2.length l2.length, .slice (some ⟨w.heap.size + 1 + 1 + 1, 0, none⟩) l3.length l3.length] 22
  simp only [World.size_alloc] at b1 b2 b3 bx
  refine ⟨rows_box [l0, l1, l2, l3] bx rfl (by omega) fun i hi => ?_, ((((A w _).on (A _ _)).on (A _ _)).on (A _ _)).on (A _ _)⟩
  obtain rfl | rfl | rfl | rfl : i = 0 ∨ i = 1 ∨ i = 2 ∨ i = 3 := by omega
  · exact ⟨_, _, _, rfl, (((b0.below (A _ _)).below (A _ _)).below (A _ _)).below (A _ _)⟩
  · exact ⟨_, _, _, rfl, ((b1.below (A _ _)).below (A _ _)).below (A _ _)⟩
  · exact ⟨_, _, _, rfl, (b2.below (A _ _)).below (A _ _)⟩
  · exact ⟨_, _, _, rfl, b3.below (A _ _)⟩
set_option maxRecDepth 40000 in
set_option maxHeartbeats 8000000 in
theorem sane13_any (W : World) : Calls Try.prog 36 #[] W fun e w' => e = .returned (.bool true) ∧ Below W.heap.size W w' := by
  obtain ⟨g, m1, gc, ⟨r1, r2⟩, ⟨r3, r4⟩, ⟨q1, q2⟩, cl⟩ := san1
  obtain ⟨k, m3, ⟨n1, n2⟩, ⟨f1, f2⟩⟩ := san3
  have M1 := Lib.hid m1
  have M3 := Lib.hid m3
  have GCE := Lib.hid gc
  have R1 := Lib.hid r1
  have R2 := Lib.hid r2
  have R3 := Lib.hid r3
  have R4 := Lib.hid r4
  have Q1 := Lib.hid q1
  have Q2 := Lib.hid q2
  have CL := Lib.hid cl
  have N1 := Lib.hid n1
  have N2 := Lib.hid n2
  have F1 := Lib.hid f1
  have F2 := Lib.hid f2
  clear m1 m3 gc r1 r2 r3 r4 q1 q2 cl n1 n2 f1 f2
  have hB0 := Below.refl W.heap.size W
  go_enter Try.func36, Try.ntmps36
  go_wp2_with fail
  have hi0 := ints_lit [3] (Box.new W #[.int .i64 3] 3) rfl (by decide)
  have ha0 : Below W.heap.size W (W.alloc (.cells #[.int .i64 3] 3)) := (Below.refl _ _).alloc (Nat.le_refl _) _
  refine (make_some hi0 (by decide) M1.out).mono ?_
  rintro e w1 ⟨v1, rfl, ⟨ah, nh, ch, ac, nc, cc, rfl, h1, h2, _, _⟩, hB1⟩
  replace hB0 := (hB0.on ha0).on hB1
  have hbg := Box.new w1 #[.int .i64 g.shape, .int .i64 g.w, .int .i64 g.h, .slice ah nh ch, .slice ac nc cc] 24
  clear hi0 ha0 hB1
  go_wp2_with fail
  -- f
  have ha := alloc2_below w1 (.cells #[.int .i64 g.shape, .int .i64 g.w, .int .i64 g.h, .slice ah nh ch, .slice ac nc cc] 24) (.cells #[.int .i64 0] 3)
  refine (make_none (lit_after w1 _ [0] rfl (by decide)) (by decide) san2).mono ?_
  rintro e w2 ⟨v2, rfl, ⟨a5, n5, c5, a6, n6, c6, rfl, h5, h6, _, _⟩, hB2⟩
  have hA : Below w1.heap.size w1 w2 := ha.on hB2
  replace hbg := (hbg.alloc (.cells #[.int .i64 0] 3)).below hB2
  replace hB0 := hB0.on hA
  replace h1 := h1.below hA
  replace h2 := h2.below hA
  clear ha hA hB2 h5 h6
  go_wp2_with fail
  -- k
  refine (make_some (Ints.nil _) (by decide) M3.out).mono ?_
  rintro e w3 ⟨v3, rfl, ⟨bh, mh, dh, bc, mc, dc, rfl, k1, k2, _, _⟩, hB3⟩
  have hA : Below w2.heap.size w2 w3 := ((Below.refl _ _).alloc (Nat.le_refl _) _).on hB3
  replace hbg := hbg.below hA
  replace hB0 := hB0.on hA
  replace h1 := h1.below hA
  replace h2 := h2.below hA
  clear hA hB3
  go_wp2_with fail
  -- l, j
  have hbk := Box.new w3 #[.int .i64 k.shape, .int .i64 k.w, .int .i64 k.h, .slice bh mh dh, .slice bc mc dc] 24
  have ha : Below w3.heap.size w3 (w3.alloc (.cells #[.int .i64 k.shape, .int .i64 k.w, .int .i64 k.h, .slice bh mh dh, .slice bc mc dc] 24)) := (Below.refl _ _).alloc (Nat.le_refl _) _
  have hcall := neighbors_any k bh bc mh dh mc dc _ (k1.below ha) (k2.below ha) (by have := (valid_make M3.out).1.len; have := k1.len; have := (valid_make M3.out).2.2.2.2; rw [← k1.len, this]; simp) (by have := (valid_make M3.out).1.len; rw [← k2.len]; omega)
  rw [N1.out, N2.out] at hcall
  refine hcall.mono ?_
  rintro e w4 ⟨v4, rfl, O4, hB4⟩
  have hA : Below w3.heap.size w3 w4 := ha.on hB4
  replace hbg := hbg.below hA
  replace hB0 := hB0.on hA
  replace h1 := h1.below hA
  replace h2 := h2.below hA
  replace k1 := k1.below hA
  replace k2 := k2.below hA
  replace hbk := hbk.below hB4
  obtain ⟨d0, d1, d2, d3, d4⟩ := hbk.g5
  have hbkl := hbk.lt
  clear ha hA hB4 hcall
  go_wp2_with fail
  -- m, k
  have hcall := fam_any 3 k bh bc mh dh mc dc _ k1 k2 (by rw [← k1.len, (valid_make M3.out).2.2.2.2]; simp) (by have := (valid_make M3.out).1.len; rw [← k2.len]; omega)
  rw [F1.out, F2.out] at hcall
  refine hcall.mono ?_
  rintro e w5 ⟨v5, rfl, O5, hA⟩
  replace hbg := hbg.below hA
  replace hB0 := hB0.on hA
  replace h1 := h1.below hA
  replace h2 := h2.below hA
  replace O4 := O4.below hA
  clear hA hcall k1 k2 hbk d0 d1 d2 d3 d4 hbkl
  obtain ⟨d0, d1, d2, d3, d4⟩ := hbg.g5
  have hbgl := hbg.lt
  go_wp2_with fail
  -- n, o
  have hnh : nh ≤ 10000000 := by rw [← h1.len, (valid_make M1.out).2.2.2.2]; simp
  have hnc : nc ≤ 10000000000 := by have := (valid_make M1.out).1.len; rw [← h2.len]; omega
  obtain ⟨hr, ha⟩ := rows13_1 w5 [2, 0] (n0 := 2) rfl (by decide)
  have hcall := gRegions_any g ah ac _ nh ch nc cc 1 1 [[2, 0]] _ (h1.below ha) (h2.below ha) hnh hnc hr (fun i => by match i with | 0 => simp | i + 1 => simp)
  rw [R1.out, R2.out] at hcall
  refine hcall.mono ?_
  rintro e w6 ⟨v6, rfl, O6, hB6⟩
  have hA : Below w5.heap.size w5 w6 := ha.on hB6
  replace hbg := hbg.below hA
  replace hB0 := hB0.on hA
  replace h1 := h1.below hA
  replace h2 := h2.below hA
  replace O4 := O4.below hA
  replace O5 := O5.below hA
  clear hA hcall hr ha hB6 d0 d1 d2 d3 d4 hbgl
  obtain ⟨d0, d1, d2, d3, d4⟩ := hbg.g5
  have hbgl := hbg.lt
  go_wp2_with fail
  -- p
  obtain ⟨hr, ha⟩ := rows13_1 w6 [3] (n0 := 1) rfl (by decide)
  have hcall := gRegions_any g ah ac _ nh ch nc cc 1 1 [[3]] _ (h1.below ha) (h2.below ha) hnh hnc hr (fun i => by match i with | 0 => simp | i + 1 => simp)
  rw [R3.out, R4.out] at hcall
  refine hcall.mono ?_
  rintro e w7 ⟨v7, rfl, _, hB7⟩
  have hA : Below w6.heap.size w6 w7 := ha.on hB7
  replace hbg := hbg.below hA
  replace hB0 := hB0.on hA
  replace h1 := h1.below hA
  replace h2 := h2.below hA
  replace O4 := O4.below hA
  replace O5 := O5.below hA
  replace O6 := O6.below hA
  clear hA hcall hr ha hB7 d0 d1 d2 d3 d4 hbgl
  obtain ⟨d0, d1, d2, d3, d4⟩ := hbg.g5
  have hbgl := hbg.lt
  go_wp2_with fail
  -- q
  have hcall := fam_any 8 g ah ac nh ch nc cc _ h1 h2 hnh hnc
  rw [Q1.out, Q2.out] at hcall
  refine hcall.mono ?_
  rintro e w8 ⟨v8, rfl, _, hA⟩
  replace hbg := hbg.below hA
  replace hB0 := hB0.on hA
  replace h1 := h1.below hA
  replace h2 := h2.below hA
  replace O4 := O4.below hA
  replace O5 := O5.below hA
  replace O6 := O6.below hA
  clear hA hcall d0 d1 d2 d3 d4 hbgl
  obtain ⟨d0, d1, d2, d3, d4⟩ := hbg.g5
  have hbgl := hbg.lt
  go_wp2_with fail
  -- ok
  have hcall := gcell_any g ah ac nh ch nc cc 3 _ h1 h2 hnh hnc
  rw [CL.out] at hcall
  refine hcall.mono ?_
  rintro e w9 ⟨rfl, hA⟩
  replace hbg := hbg.below hA
  replace hB0 := hB0.on hA
  replace h2 := h2.below hA
  replace O4 := O4.below hA
  replace O5 := O5.below hA
  replace O6 := O6.below hA
  clear hA hcall d0 d1 d2 d3 d4 hbgl
  obtain ⟨d0, d1, d2, d3, d4⟩ := hbg.g5
  have hbgl := hbg.lt
  rw [GCE.out] at h2
  obtain ⟨a4, c4, rfl, hR4⟩ := O4.rows
  obtain ⟨a5, c5, rfl, hR5⟩ := O5.rows
  obtain ⟨a6, c6, rfl, hR6⟩ := O6.rows
  clear O4 O5 O6
  go_wp2_with fail
  have ha : Below w9.heap.size w9 (w9.alloc (.cells #[.int .i64 0, .int .i64 1, .int .i64 2] 3)) := (Below.refl _ _).alloc (Nat.le_refl _) _
  refine (same13_lit (h2.below ha) (ints_lit [0, 1, 2] (Box.new w9 #[.int .i64 0, .int .i64 1, .int .i64 2] 3) rfl (by decide)) rfl).mono ?_
  rintro e w10 ⟨rfl, q, rfl⟩
  have hA := below_drewN ha q
  replace hB0 := hB0.on hA
  replace hR4 := hR4.below hA
  replace hR5 := hR5.below hA
  replace hR6 := hR6.below hA
  clear ha hA d0 d1 d2 d3 d4 hbgl hbg
  go_wp2_with fail
  obtain ⟨w10, hw10⟩ : ∃ w10, (w9.alloc (.cells #[.int .i64 0, .int .i64 1, .int .i64 2] 3)).drewN q = w10 := ⟨_, rfl⟩
  have hs10 : w10.heap.size = w9.heap.size + 1 := by rw [← hw10]; simp
  rw [hw10] at hB0 hR4 hR5 hR6 ⊢
  clear hw10
  obtain ⟨hr, ha⟩ := rows13_4 w10 [1, 2] [0, 2, 3] [0, 1, 3] [1, 2] (n0 := 2) (n1 := 3) (n2 := 3) (n3 := 2) rfl rfl rfl rfl (by decide) (by decide) (by decide) (by decide)
  rw [hs10] at hr ha
  refine (sameLists_lit (hR4.below (by rw [hs10]; exact ha)) hr rfl).mono ?_
  rintro e w11 ⟨rfl, q2, rfl⟩
  go_wp2_with fail
  have hA : Below w10.heap.size w10 ((((((w10.alloc (.cells #[.int .i64 1, .int .i64 2] 3)).alloc (.cells #[.int .i64 0, .int .i64 2, .int .i64 3] 3)).alloc (.cells #[.int .i64 0, .int .i64 1, .int .i64 3] 3)).alloc (.cells #[.int .i64 1, .int .i64 2] 3)).alloc (.cells #[.slice (some ⟨w9.heap.size + 1, 0, none⟩) 2 2, .slice (some ⟨w9.heap.size + 1 + 1, 0, none⟩) 3 3, .slice (some ⟨w9.heap.size + 1 + 1 + 1, 0, none⟩) 3 3, .slice (some ⟨w9.heap.size + 1 + 1 + 1 + 1, 0, none⟩) 2 2] 22)).drewN q2) := below_drewN (by rw [hs10]; exact ha : Below w10.heap.size w10 _) q2
  obtain ⟨w11, hw11⟩ : ∃ w11, (((((w10.alloc (.cells #[.int .i64 1, .int .i64 2] 3)).alloc (.cells #[.int .i64 0, .int .i64 2, .int .i64 3] 3)).alloc (.cells #[.int .i64 0, .int .i64 1, .int .i64 3] 3)).alloc (.cells #[.int .i64 1, .int .i64 2] 3)).alloc (.cells #[.slice (some ⟨w9.heap.size + 1, 0, none⟩) 2 2, .slice (some ⟨w9.heap.size + 1 + 1, 0, none⟩) 3 3, .slice (some ⟨w9.heap.size + 1 + 1 + 1, 0, none⟩) 3 3, .slice (some ⟨w9.heap.size + 1 + 1 + 1 + 1, 0, none⟩) 2 2] 22)).drewN q2 = w11 := ⟨_, rfl⟩
  have hs11 : w11.heap.size = w9.heap.size + 1 + 1 + 1 + 1 + 1 + 1 := by rw [← hw11]; simp [hs10]
  rw [hw11] at hA ⊢
  replace hB0 := hB0.on hA
  replace hR5 := hR5.below hA
  replace hR6 := hR6.below hA
  clear hw11 hA hr ha hs10 hR4
  obtain ⟨hr, ha⟩ := rows13_3 w11 [0] [1, 2] [3] (n0 := 1) (n1 := 2) (n2 := 1) rfl rfl rfl (by decide) (by decide) (by decide)
  rw [hs11] at hr ha
  refine (sameLists_lit (hR5.below (by rw [hs11]; exact ha)) hr rfl).mono ?_
  rintro e w12 ⟨rfl, q3, rfl⟩
  go_wp2_with fail
  have hA : Below w11.heap.size w11 (((((w11.alloc (.cells #[.int .i64 0] 3)).alloc (.cells #[.int .i64 1, .int .i64 2] 3)).alloc (.cells #[.int .i64 3] 3)).alloc (.cells #[.slice (some ⟨w9.heap.size + 1 + 1 + 1 + 1 + 1 + 1, 0, none⟩) 1 1, .slice (some ⟨w9.heap.size + 1 + 1 + 1 + 1 + 1 + 1 + 1, 0, none⟩) 2 2, .slice (some ⟨w9.heap.size + 1 + 1 + 1 + 1 + 1 + 1 + 1 + 1, 0, none⟩) 1 1] 22)).drewN q3) := below_drewN (by rw [hs11]; exact ha : Below w11.heap.size w11 _) q3
  obtain ⟨w12, hw12⟩ : ∃ w12, ((((w11.alloc (.cells #[.int .i64 0] 3)).alloc (.cells #[.int .i64 1, .int .i64 2] 3)).alloc (.cells #[.int .i64 3] 3)).alloc (.cells #[.slice (some ⟨w9.heap.size + 1 + 1 + 1 + 1 + 1 + 1, 0, none⟩) 1 1, .slice (some ⟨w9.heap.size + 1 + 1 + 1 + 1 + 1 + 1 + 1, 0, none⟩) 2 2, .slice (some ⟨w9.heap.size + 1 + 1 + 1 + 1 + 1 + 1 + 1 + 1, 0, none⟩) 1 1] 22)).drewN q3 = w12 := ⟨_, rfl⟩
  have hs12 : w12.heap.size = w9.heap.size + 1 + 1 + 1 + 1 + 1 + 1 + 1 + 1 + 1 + 1 := by rw [← hw12]; simp [hs11]
  rw [hw12] at hA ⊢
  replace hB0 := hB0.on hA
  replace hR6 := hR6.below hA
  clear hw12 hA hr ha hs11 hR5
  obtain ⟨hr, ha⟩ := rows13_1 w12 [2, 0] (n0 := 2) rfl (by decide)
  rw [hs12] at hr ha
  refine (sameLists_lit (hR6.below (by rw [hs12]; exact ha)) hr rfl).mono ?_
  rintro e w13 ⟨rfl, q4, rfl⟩
  have hA := below_drewN (by rw [hs12]; exact ha : Below w12.heap.size w12 _) q4
  replace hB0 := hB0.on hA
  clear hr ha hR6 hA hs12
  go_wp2_with fail
  go_ret
  exact ⟨rfl, hB0⟩
end Go.Proofs.Ytjiacdihfbbfjaa

