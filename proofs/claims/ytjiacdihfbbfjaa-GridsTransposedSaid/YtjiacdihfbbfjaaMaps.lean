/- Contracts of moves.maps and its hexagonal closure. -/
import Derived.Test.YtjiacdihfbbfjaaPlc
import Derived.Laws.EntriesVeiled
import Derived.Maps.AppendAt
import Derived.Shelf.Abstract
import Derived.WalkKit
import Derived.WalkSpells
import Derived.WalkLawsBesides
import Derived.Deep.LoopGhost
import Derived.Deep.QuietTactic
import Derived.BigQuiet
import Derived.StillTailTactics
import Derived.Lib.Hide
import Derived.Outline
import Derived.Lib.QuietBelow
namespace Go.Proofs.Ytjiacdihfbbfjaa
open Go.RowKit

theorem turns_bd {p : Int × Int} (hp : small p) {j : Nat} (hj : j ≤ 5) : (-1000000 ≤ (turns j p).1 ∧ (turns j p).1 ≤ 1000000) ∧ (-1000000 ≤ (turns j p).2 ∧ (turns j p).2 ≤ 1000000) := by
  obtain ⟨h1, h2, h3, h4⟩ := hp
  have : j = 0 ∨ j = 1 ∨ j = 2 ∨ j = 3 ∨ j = 4 ∨ j = 5 := by omega
  rcases this with rfl | rfl | rfl | rfl | rfl | rfl <;> simp only [turns, turned] <;> omega

set_option maxRecDepth 20000 in
set_option maxHeartbeats 2000000 in
theorem hex_lo (k : Nat) (a b : Int) (B : Nat) (W : World) (hk : k < 12) (hh : k < 6) (hp : small (a, b)) (hc : W.cell? ⟨B, 0, none⟩ = some (.int .i64 k)) (hB : B < W.heap.size) :
    Calls Try.prog 119 #[.agg #[.int .i64 a, .int .i64 b], .pointer (some ⟨B, 0, none⟩)] W (RetPlace W (turns (k % 6) (a, b))) := by
  have hp0 : small (a, b) := by unfold small at *; simp only at *; omega
  have hm : (k : Int) % 6 = ((k % 6 : Nat) : Int) := by omega
  go_enter Try.func119, Try.ntmps119
  clear hm
  have hk6 : 0 ≤ (k : Int) % 6 ∧ (k : Int) % 6 ≤ 5 := by omega
  go_wp2_with fail
  go_loopw [13] (fun c wr => ∃ (j : Nat) (x y : Int), c = .int .i64 j ∧ (j : Int) ≤ (k : Int) % 6 ∧ Box wr W.heap.size #[.int .i64 x, .int .i64 y] 98 ∧ Box wr (W.heap.size + 1) #[.int .i64 0, .int .i64 0] 98 ∧ Hid ((x, y) = turns j (a, b)) ∧ Below W.heap.size W wr) (fun c _ => 6 - (intOf c).toNat)
  case atStart => exact ⟨0, _, _, rfl, by omega, (Box.new _ _ _).alloc _, by simpa using Box.new (W.alloc _) _ _, Lib.hid rfl, (by repeat (first | (with_reducible exact Below.refl _ _) | (with_reducible assumption) | (with_reducible refine below_drewN ?_ _) | ((with_reducible refine Below.setCell ?_ ?_ _); rotate_left; focus (first | (simp; done) | (simp; omega) | omega)) | ((with_reducible refine Below.alloc ?_ ?_ _); rotate_left; focus (first | (simp; done) | (simp; omega) | omega)) | (with_reducible refine Below.drew ?_)))⟩
  case round =>
    obtain ⟨j, x, y, rfl, hj, hx, hz, HP, hB2⟩ := hrel
    have hsz := hz.lt
    have d0 : wr.cell? ⟨W.heap.size, 0, none⟩ = some (.int .i64 x) := by simpa using hx.cell 0
    have d1 : wr.cell? ⟨W.heap.size, 1, none⟩ = some (.int .i64 y) := by simpa using hx.cell 1
    by_cases hlt : (j : Int) < (k : Int) % 6
    · have hbd := turns_bd hp0 (j := j) (by omega)
      rw [← HP.out] at hbd
      obtain ⟨b1, b2⟩ := hbd
      simp only at b1 b2
      go_wp2_with fail
      refine (turned_any x y _ b1 b2).mono ?_
      rintro e w1 ⟨rfl, hB1⟩
      have hx1 := hx.below hB1
      have g0 : w1.cell? ⟨W.heap.size, 0, none⟩ = some (.int .i64 x) := by simpa using hx1.cell 0
      have g1 : w1.cell? ⟨W.heap.size, 1, none⟩ = some (.int .i64 y) := by simpa using hx1.cell 1
      have f0 := hx1.frozen 0
      have f1 := hx1.frozen 1
      have hB3 := hB2.on hB1
      simp only [turned]
      go_wp2_with fail
      go_roundw
      case rel =>
        refine ⟨j + 1, -y, x + y, by go_num, by omega, by simpa using (hx1.set 0 _).set 1 _, ((hz.below hB1).setOther _ (by simp)).setOther _ (by simp), Lib.hid ?_, (by repeat (first | (with_reducible exact Below.refl _ _) | (with_reducible assumption) | (with_reducible refine below_drewN ?_ _) | ((with_reducible refine Below.setCell ?_ ?_ _); rotate_left; focus (first | (simp; done) | (simp; omega) | omega)) | ((with_reducible refine Below.alloc ?_ ?_ _); rotate_left; focus (first | (simp; done) | (simp; omega) | omega)) | (with_reducible refine Below.drew ?_)))⟩
        rw [turns, ← HP.out]; rfl
      case measure => simp [intOf]; omega
    · have hjk : j = k % 6 := by omega
      have HJ := Lib.hid hjk
      clear hjk
      have f0 := hz.frozen 0
      have f1 := hz.frozen 1
      have z0 : wr.cell? ⟨W.heap.size + 1, 0, none⟩ = some (.int .i64 0) := by simpa using hz.cell 0
      have z1 : wr.cell? ⟨W.heap.size + 1, 1, none⟩ = some (.int .i64 0) := by simpa using hz.cell 1
      go_wp2_with fail
      refine bodyPost_ret (v := .agg #[.int .i64 x, .int .i64 y]) (by simp [results, Try.results119, go_sem, z0, z1]) rfl ?_
      exact retPlace_eq (by rw [← HJ.out, ← HP.out]) (by rw [← HJ.out, ← HP.out]) (by repeat (first | (with_reducible exact Below.refl _ _) | (with_reducible assumption) | (with_reducible refine below_drewN ?_ _) | ((with_reducible refine Below.setCell ?_ ?_ _); rotate_left; focus (first | (simp; done) | (simp; omega) | omega)) | ((with_reducible refine Below.alloc ?_ ?_ _); rotate_left; focus (first | (simp; done) | (simp; omega) | omega)) | (with_reducible refine Below.drew ?_)))
set_option maxRecDepth 20000 in
set_option maxHeartbeats 2000000 in
theorem hex_hi (k : Nat) (a b : Int) (B : Nat) (W : World) (hk : k < 12) (hh : 6 ≤ k) (hp : small (a, b)) (hc : W.cell? ⟨B, 0, none⟩ = some (.int .i64 k)) (hB : B < W.heap.size) :
    Calls Try.prog 119 #[.agg #[.int .i64 a, .int .i64 b], .pointer (some ⟨B, 0, none⟩)] W (RetPlace W (turns (k % 6) (b, a))) := by
  have hp0 : small (b, a) := by unfold small at *; simp only at *; omega
  have hm : (k : Int) % 6 = ((k % 6 : Nat) : Int) := by omega
  go_enter Try.func119, Try.ntmps119
  clear hm
  have hk6 : 0 ≤ (k : Int) % 6 ∧ (k : Int) % 6 ≤ 5 := by omega
  go_wp2_with fail
  go_loopw [13] (fun c wr => ∃ (j : Nat) (x y : Int), c = .int .i64 j ∧ (j : Int) ≤ (k : Int) % 6 ∧ Box wr W.heap.size #[.int .i64 x, .int .i64 y] 98 ∧ Box wr (W.heap.size + 1) #[.int .i64 0, .int .i64 0] 98 ∧ Hid ((x, y) = turns j (b, a)) ∧ Below W.heap.size W wr) (fun c _ => 6 - (intOf c).toNat)
  case atStart => exact ⟨0, _, _, rfl, by omega, (Box.new _ _ _).alloc _, by simpa using Box.new (W.alloc _) _ _, Lib.hid rfl, (by repeat (first | (with_reducible exact Below.refl _ _) | (with_reducible assumption) | (with_reducible refine below_drewN ?_ _) | ((with_reducible refine Below.setCell ?_ ?_ _); rotate_left; focus (first | (simp; done) | (simp; omega) | omega)) | ((with_reducible refine Below.alloc ?_ ?_ _); rotate_left; focus (first | (simp; done) | (simp; omega) | omega)) | (with_reducible refine Below.drew ?_)))⟩
  case round =>
    obtain ⟨j, x, y, rfl, hj, hx, hz, HP, hB2⟩ := hrel
    have hsz := hz.lt
    have d0 : wr.cell? ⟨W.heap.size, 0, none⟩ = some (.int .i64 x) := by simpa using hx.cell 0
    have d1 : wr.cell? ⟨W.heap.size, 1, none⟩ = some (.int .i64 y) := by simpa using hx.cell 1
    by_cases hlt : (j : Int) < (k : Int) % 6
    · have hbd := turns_bd hp0 (j := j) (by omega)
      rw [← HP.out] at hbd
      obtain ⟨b1, b2⟩ := hbd
      simp only at b1 b2
      go_wp2_with fail
      refine (turned_any x y _ b1 b2).mono ?_
      rintro e w1 ⟨rfl, hB1⟩
      have hx1 := hx.below hB1
      have g0 : w1.cell? ⟨W.heap.size, 0, none⟩ = some (.int .i64 x) := by simpa using hx1.cell 0
      have g1 : w1.cell? ⟨W.heap.size, 1, none⟩ = some (.int .i64 y) := by simpa using hx1.cell 1
      have f0 := hx1.frozen 0
      have f1 := hx1.frozen 1
      have hB3 := hB2.on hB1
      simp only [turned]
      go_wp2_with fail
      go_roundw
      case rel =>
        refine ⟨j + 1, -y, x + y, by go_num, by omega, by simpa using (hx1.set 0 _).set 1 _, ((hz.below hB1).setOther _ (by simp)).setOther _ (by simp), Lib.hid ?_, (by repeat (first | (with_reducible exact Below.refl _ _) | (with_reducible assumption) | (with_reducible refine below_drewN ?_ _) | ((with_reducible refine Below.setCell ?_ ?_ _); rotate_left; focus (first | (simp; done) | (simp; omega) | omega)) | ((with_reducible refine Below.alloc ?_ ?_ _); rotate_left; focus (first | (simp; done) | (simp; omega) | omega)) | (with_reducible refine Below.drew ?_)))⟩
        rw [turns, ← HP.out]; rfl
      case measure => simp [intOf]; omega
    · have hjk : j = k % 6 := by omega
      have HJ := Lib.hid hjk
      clear hjk
      have f0 := hz.frozen 0
      have f1 := hz.frozen 1
      have z0 : wr.cell? ⟨W.heap.size + 1, 0, none⟩ = some (.int .i64 0) := by simpa using hz.cell 0
      have z1 : wr.cell? ⟨W.heap.size + 1, 1, none⟩ = some (.int .i64 0) := by simpa using hz.cell 1
      go_wp2_with fail
      refine bodyPost_ret (v := .agg #[.int .i64 x, .int .i64 y]) (by simp [results, Try.results119, go_sem, z0, z1]) rfl ?_
      exact retPlace_eq (by rw [← HJ.out, ← HP.out]) (by rw [← HJ.out, ← HP.out]) (by repeat (first | (with_reducible exact Below.refl _ _) | (with_reducible assumption) | (with_reducible refine below_drewN ?_ _) | ((with_reducible refine Below.setCell ?_ ?_ _); rotate_left; focus (first | (simp; done) | (simp; omega) | omega)) | ((with_reducible refine Below.alloc ?_ ?_ _); rotate_left; focus (first | (simp; done) | (simp; omega) | omega)) | (with_reducible refine Below.drew ?_)))

theorem hex_any (k : Nat) (a b : Int) (B : Nat) (W : World) (hk : k < 12) (hp : small (a, b)) (hc : W.cell? ⟨B, 0, none⟩ = some (.int .i64 k)) (hB : B < W.heap.size) :
    Calls Try.prog 119 #[.agg #[.int .i64 a, .int .i64 b], .pointer (some ⟨B, 0, none⟩)] W (RetPlace W (hexMap k (a, b))) := by
  unfold hexMap
  by_cases h : 6 ≤ k
  · rw [if_pos h]; exact hex_hi k a b B W hk h hp hc hB
  · rw [if_neg h]; exact hex_lo k a b B W hk (by omega) hp hc hB

/-- The blocks from base on lie as they lay. -/
def Kept (base : Nat) (w w' : World) : Prop := w.heap.size ≤ w'.heap.size ∧ ∀ k, base ≤ k → k < w.heap.size → w'.heap[k]? = w.heap[k]?
theorem Kept.trans {base : Nat} {a b c : World} (h : Kept base a b) (k : Kept base b c) : Kept base a c := ⟨Nat.le_trans h.1 k.1, fun i h1 h2 => (k.2 i h1 (Nat.lt_of_lt_of_le h2 h.1)).trans (h.2 i h1 h2)⟩
theorem Kept.of_below {base : Nat} {a b : World} (h : Below a.heap.size a b) : Kept base a b := ⟨h.size, fun k _ hk => h.block k hk⟩
/-- A function value that computes a linear map, as long as the blocks from base on lie as they lay. -/
def FnAt (base : Nat) (w : World) (v : Value) (F : Int × Int → Int × Int) : Prop := ∃ f caps, v = .func (.func f) #[] caps ∧ Go.Proofs.Enters Try.prog f ∧ ∀ w', Kept base w w' → ∀ a b, small (a, b) → Calls Try.prog f (#[.agg #[.int .i64 a, .int .i64 b]] ++ caps) w' (RetPlace w' (F (a, b)))
theorem FnAt.kept {base : Nat} {w w' : World} {v : Value} {F : Int × Int → Int × Int} (h : FnAt base w v F) (hb : Kept base w w') : FnAt base w' v F :=
  let ⟨f, c, e, he, h⟩ := h; ⟨f, c, e, he, fun w2 h2 => h w2 (hb.trans h2)⟩
def linMap (shape : Int) (k : Nat) : Int × Int → Int × Int := if shape = 1 then sqMap k else hexMap k
def linMany (shape : Int) : Nat := if shape = 1 then 8 else 12
/-- A slice of linear maps. -/
structure Fns (base : Nat) (w : World) (a : Option Addr) (n c : Nat) (F : Nat → Int × Int → Int × Int) : Prop where
  cap : n ≤ c
  mx : c ≤ maxLen
  at' : 0 < n → ∃ b o, a = some ⟨b, o, none⟩ ∧ b < w.heap.size ∧ base ≤ b
  fn : ∀ b o, a = some ⟨b, o, none⟩ → ∀ i, i < n → ∃ v, w.cell? ⟨b, o + i, none⟩ = some v ∧ FnAt base w v (F i)
def RetFns (W : World) (n : Nat) (F : Nat → Int × Int → Int × Int) (e : Ending) (w' : World) : Prop := ∃ a c, e = .returned (.slice a n c) ∧ Fns W.heap.size w' a n c F ∧ Below W.heap.size W w'

set_option maxRecDepth 20000 in
set_option maxHeartbeats 2000000 in
theorem maps_sq (W : World) : Calls Try.prog 89 #[.int .i64 1] W (RetFns W 8 sqMap) := by
  go_enter Try.func89, Try.ntmps89
  go_wp2_with fail
  go_ret
  refine ⟨_, _, rfl, ⟨Nat.le_refl _, by simp [maxLen], fun _ => ⟨_, _, rfl, by simp, Nat.le_refl _⟩, fun b o e i hi => ?_⟩, (by repeat (first | (with_reducible exact Below.refl _ _) | (with_reducible assumption) | (with_reducible refine below_drewN ?_ _) | ((with_reducible refine Below.setCell ?_ ?_ _); rotate_left; focus (first | (simp; done) | (simp; omega) | omega)) | ((with_reducible refine Below.alloc ?_ ?_ _); rotate_left; focus (first | (simp; done) | (simp; omega) | omega)) | (with_reducible refine Below.drew ?_)))⟩
  obtain ⟨rfl, rfl⟩ : W.heap.size = b ∧ 0 = o := by simpa using e
  have : i = 0 ∨ i = 1 ∨ i = 2 ∨ i = 3 ∨ i = 4 ∨ i = 5 ∨ i = 6 ∨ i = 7 := by omega
  rcases this with rfl | rfl | rfl | rfl | rfl | rfl | rfl | rfl
  · exact ⟨.func (.func 111) #[] #[], by simp, _, _, rfl, Go.Proofs.enters_of Try.func111 (by kernel_rfl) rfl, fun w' _ a b h => by simpa using sq0 a b w' h⟩
  · exact ⟨.func (.func 112) #[] #[], by simp, _, _, rfl, Go.Proofs.enters_of Try.func112 (by kernel_rfl) rfl, fun w' _ a b h => by simpa using sq1 a b w' h⟩
  · exact ⟨.func (.func 113) #[] #[], by simp, _, _, rfl, Go.Proofs.enters_of Try.func113 (by kernel_rfl) rfl, fun w' _ a b h => by simpa using sq2 a b w' h⟩
  · exact ⟨.func (.func 114) #[] #[], by simp, _, _, rfl, Go.Proofs.enters_of Try.func114 (by kernel_rfl) rfl, fun w' _ a b h => by simpa using sq3 a b w' h⟩
  · exact ⟨.func (.func 115) #[] #[], by simp, _, _, rfl, Go.Proofs.enters_of Try.func115 (by kernel_rfl) rfl, fun w' _ a b h => by simpa using sq4 a b w' h⟩
  · exact ⟨.func (.func 116) #[] #[], by simp, _, _, rfl, Go.Proofs.enters_of Try.func116 (by kernel_rfl) rfl, fun w' _ a b h => by simpa using sq5 a b w' h⟩
  · exact ⟨.func (.func 117) #[] #[], by simp, _, _, rfl, Go.Proofs.enters_of Try.func117 (by kernel_rfl) rfl, fun w' _ a b h => by simpa using sq6 a b w' h⟩
  · exact ⟨.func (.func 118) #[] #[], by simp, _, _, rfl, Go.Proofs.enters_of Try.func118 (by kernel_rfl) rfl, fun w' _ a b h => by simpa using sq7 a b w' h⟩

theorem cell_one_at (w : World) (u : Value) (t : TypeId) (n : Nat) (hn : n = w.heap.size) : ∀ j x, [u][j]? = some x → (w.alloc (.cells #[u] t)).cell? ((⟨n, 0, none⟩ : Addr).add j) = some x := by
  subst hn; exact cell_one_new w u t
theorem info_fn : (Try.prog.info? 104).map (fun i => (i.zero, i.size, i.bytes)) = some (some .nilFunc, 1, 8) := by kernel_rfl

/-- The closures that have been collected: closure i has captured i. -/
def HexRow (base : Nat) (w : World) (row : Option Nat) (us : List Value) : Prop := ∀ i, i < us.length → ∃ B, us[i]? = some (.func (.func 119) #[] #[.pointer (some ⟨B, 0, none⟩)]) ∧ Box w B #[.int .i64 i] 3 ∧ row ≠ some B ∧ base ≤ B
theorem HexRow.push {base : Nat} {w w1 : World} {v v' : Value} {us : List Value} {B : Nat} (h : HexRow base w v.ownBlock us) (hB0 : base ≤ B) (hB : Box w B #[.int .i64 us.length] 3) (hne : v.ownBlock ≠ some B) (hg : w.grownBy w1 v.ownBlock)
    (hfr : v'.ownBlock = v.ownBlock ∨ v'.ownBlock = some w.heap.size) : HexRow base w1 v'.ownBlock (us ++ [.func (.func 119) #[] #[.pointer (some ⟨B, 0, none⟩)]]) := by
  have key : ∀ B (i : Nat), Box w B #[.int .i64 i] 3 → v.ownBlock ≠ some B → Box w1 B #[.int .i64 i] 3 ∧ v'.ownBlock ≠ some B := fun B i hB hne => by
    refine ⟨hB.grown hg hne, ?_⟩
    rcases hfr with h | h
    · rw [h]; exact hne
    · rw [h]; intro e; have := hB.lt; simp at e; omega
  intro i hi
  by_cases hlt : i < us.length
  · obtain ⟨B', e, hb, hn, hq⟩ := h i hlt
    obtain ⟨k1, k2⟩ := key B' i hb hn
    exact ⟨B', by rw [List.getElem?_append_left hlt]; exact e, k1, k2, hq⟩
  · obtain rfl : i = us.length := by simp at hi; omega
    obtain ⟨k1, k2⟩ := key B _ hB hne
    exact ⟨B, by simp, k1, k2, hB0⟩
theorem HexRow.same {base : Nat} {w w1 : World} {row : Option Nat} {us : List Value} (h : HexRow base w row us) (hb : Below w.heap.size w w1) : HexRow base w1 row us := fun i hi => let ⟨B, e, hx, hn⟩ := h i hi; ⟨B, e, hx.below hb, hn⟩

theorem hexFns {W w : World} {us : List Value} {a : Option Addr} {c : Nat} (hl : us.length = 12) (hO : w.ownsRow W.heap.size 104 1 (.slice a 12 c) 12 us) (hH : HexRow W.heap.size w (Value.slice a 12 c).ownBlock us) (h1 : 12 ≤ c) (h2 : c ≤ maxLen) (hB : Below W.heap.size W w) :
    RetFns W 12 hexMap (.returned (.slice a 12 c)) w := by
  obtain ⟨k1, k2⟩ := own_addr hO
  refine ⟨_, _, rfl, ⟨h1, h2, fun h => (let ⟨b, o, e, hl⟩ := k1 h; ⟨b, o, e, hl, (hO.lt b (by rw [e]; rfl)).1⟩), fun b o e i hi => ?_⟩, hB⟩
  obtain ⟨B, eu, hx, _, hq⟩ := hH i (by omega)
  exact ⟨_, (k2 b o e i hi).trans eu, _, _, rfl, Go.Proofs.enters_of Try.func119 (by kernel_rfl) rfl, fun w' hb a b h => by
    have hx' : Box w' B #[.int .i64 i] 3 := (hb.2 B hq hx.lt).trans hx
    exact hex_any i a b B w' hi h (by simpa using hx'.cell 0) hx'.lt⟩

set_option maxRecDepth 20000 in
set_option maxHeartbeats 2000000 in
theorem maps_hex (s : Int) (W : World) (hs : s ≠ 1) : Calls Try.prog 89 #[.int .i64 s] W (RetFns W 12 hexMap) := by
  have hs' : (s == 1) = false := by rw [beq_eq_false_iff_ne]; exact hs
  obtain ⟨i4, hi4, hz40, hz41, hz42⟩ := info_parts info_fn
  clear hs
  go_enter Try.func89, Try.ntmps89
  go_wp2_with fail
  go_loopw [4, 5, 12] (fun v _ i wr => ∃ (k : Nat) (us : List Value), k ≤ 12 ∧ i = .int .i64 k ∧ us.length = k ∧ wr.ownsRow W.heap.size 104 1 v k us ∧ HexRow W.heap.size wr v.ownBlock us ∧ Below W.heap.size W wr) (fun _ _ i _ => 12 - (intOf i).toNat)
  case atStart => exact ⟨0, [], by omega, rfl, rfl, World.ownsRow_nil _ _ _ _, fun i hi => by simp at hi, Below.refl _ _⟩
  case round =>
    obtain ⟨k, us, hk, rfl, hl, hO, hH, hB⟩ := hrel
    have HL := Lib.hid hl
    clear hl
    have hsz := hB.size
    by_cases hlt : k < 12
    · go_wp2_with (at_builtin; (refine wpList_append_own2 _ rfl _ _ 102 rfl W.heap.size 104 i4 .nilFunc 1 8 Try.underlying102 hi4 hz40 hz41 hz42 rfl (by decide) _ _ _ ((hO.alloc _).alloc _) rfl ⟨_, 0, none⟩ 1 1 [.func (.func 119) #[] #[.pointer (some ⟨wr.heap.size, 0, none⟩)]] rfl rfl (cell_one_at _ _ _ _ (by simp)) (by simp [Value.oneCell']) (by unfold maxLen; omega) (by omega) (by first | omega | (simp; omega)) ?_); intro v' w1 hown' hgrow hfr)
      go_roundw
      case rel =>
        have hH2 := (hH.same ((Below.refl _ _).alloc (Nat.le_refl _) (.cells #[.int .i64 k] 3))).same ((Below.refl _ _).alloc (Nat.le_refl _) (.cells #[.func (.func 119) #[] #[.pointer (some ⟨wr.heap.size, 0, none⟩)]] 104))
        refine ⟨k + 1, _, by omega, by go_num, by simp [HL.out], hown', HexRow.push hH2 (by omega) (by rw [HL.out]; exact (Box.new _ _ _).alloc _) (fun e => by have := (hO.lt _ e).2; omega) hgrow hfr, ?_⟩
        exact ((hB.alloc hsz _).alloc (by simp; omega) _).grown hgrow (by simp; omega) (fun q e => (hO.lt q e).1)
      case measure => simp [intOf]; omega
    · obtain rfl : k = 12 := by omega
      obtain ⟨a, c, rfl, hac, hcm⟩ := own_slice hO
      go_wp2_with fail
      go_ret
      exact hexFns HL.out hO hH hac hcm hB

theorem maps_any (s : Int) (W : World) : Calls Try.prog 89 #[.int .i64 s] W (RetFns W (linMany s) (linMap s)) := by
  unfold linMany linMap
  by_cases h : s = 1
  · subst h; simpa using maps_sq W
  · have h1 : (fun k => if s = 1 then sqMap k else hexMap k) = hexMap := by funext k; rw [if_neg h]
    rw [if_neg h, h1]; exact maps_hex s W h
end Go.Proofs.Ytjiacdihfbbfjaa
