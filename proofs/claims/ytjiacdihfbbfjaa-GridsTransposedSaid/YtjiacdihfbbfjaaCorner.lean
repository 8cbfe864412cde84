/- Contract of moves.corner. -/
import Derived.Test.YtjiacdihfbbfjaaPlc
import Derived.WalkKit
import Derived.WalkSpells
import Derived.WalkLawsBesides
import Derived.Deep.LoopGhost
import Derived.Deep.QuietTactic
import Derived.BigQuiet
import Derived.StillTailTactics
import Derived.Lib.Hide
import Derived.Outline
import Derived.Lib.QuietBelow
namespace Go.Proofs.Ytjiacdihfbbfjaa
open Go.RowKit

/-- A slice of places: two cells an element. -/
structure Places (w : World) (a : Option Addr) (n c : Nat) (l : List (Int × Int)) : Prop where
  len : l.length = n
  cap : n ≤ c
  mx : c ≤ maxLen
  at' : 0 < n → ∃ b o, a = some ⟨b, o, none⟩ ∧ b < w.heap.size
  fst : ∀ b o, a = some ⟨b, o, none⟩ → ∀ i, i < n → w.cell? ⟨b, o + i * 2, none⟩ = some (.int .i64 (l[i]?.getD (0, 0)).1)
  snd : ∀ b o, a = some ⟨b, o, none⟩ → ∀ i, i < n → w.cell? ⟨b, o + i * 2 + 1, none⟩ = some (.int .i64 (l[i]?.getD (0, 0)).2)
theorem Places.below {w w' : World} {a : Option Addr} {n c : Nat} {l : List (Int × Int)} (h : Places w a n c l) (hb : Below w.heap.size w w') : Places w' a n c l where
  len := h.len
  cap := h.cap
  mx := h.mx
  at' := fun hn => let ⟨b, o, e, hl⟩ := h.at' hn; ⟨b, o, e, Nat.lt_of_lt_of_le hl hb.size⟩
  fst := fun b o e i hi => by
    obtain ⟨b', o', e', hl⟩ := h.at' (by omega)
    rw [e] at e'
    obtain ⟨rfl, rfl⟩ : b = b' ∧ o = o' := by simpa using e'
    rw [hb.cell (p := ⟨b, _, none⟩) hl]
    exact h.fst b o e i hi
  snd := fun b o e i hi => by
    obtain ⟨b', o', e', hl⟩ := h.at' (by omega)
    rw [e] at e'
    obtain ⟨rfl, rfl⟩ : b = b' ∧ o = o' := by simpa using e'
    rw [hb.cell (p := ⟨b, _, none⟩) hl]
    exact h.snd b o e i hi
def cornerStep (c p : Int × Int) : Int × Int := (min c.1 p.1, min c.2 p.2)
def cornerL (l : List (Int × Int)) : Int × Int := l.foldl cornerStep (l.headD (0, 0))
def cornerUpto (l : List (Int × Int)) (k : Nat) : Int × Int := (l.take k).foldl cornerStep (l.headD (0, 0))
theorem takeP_getD (l : List (Int × Int)) (k : Nat) (h : k < l.length) : l.take (k + 1) = l.take k ++ [l[k]?.getD (0, 0)] := by
  rw [List.take_succ_eq_append_getElem h]; simp [List.getElem?_eq_getElem h]
theorem cornerUpto_succ (l : List (Int × Int)) (k : Nat) (h : k < l.length) : cornerUpto l (k + 1) = cornerStep (cornerUpto l k) (l[k]?.getD (0, 0)) := by
  unfold cornerUpto; rw [takeP_getD l k h, List.foldl_append]; rfl
theorem cornerUpto_end (l : List (Int × Int)) : cornerUpto l l.length = cornerL l := by
  unfold cornerUpto cornerL; rw [List.take_of_length_le (Nat.le_refl _)]

set_option maxRecDepth 20000 in
set_option maxHeartbeats 2000000 in
theorem corner_any (a0 : Option Addr) (n c : Nat) (l : List (Int × Int)) (W : World) (h0 : Places W a0 n c l) (hn : 0 < n) :
    Calls Try.prog 88 #[.slice a0 n c] W (RetPlace W (cornerL l)) := by
  have hm0 := h0.mx
  have hc0 := h0.cap
  have hl0 := Lib.hid h0.len
  unfold maxLen at hm0
  obtain ⟨b0, o0, rfl, hb0⟩ := h0.at' hn
  have e0 := h0.fst _ _ rfl 0 hn
  have e1 := h0.snd _ _ rfl 0 hn
  simp only [Nat.zero_mul, Nat.add_zero] at e0 e1
  go_enter Try.func88, Try.ntmps88
  go_wp2_with fail
  go_loopw [5, 11] (fun _ i wr => ∃ (k : Nat) (x y : Int), k ≤ n ∧ i = .int .i64 k ∧ Box wr W.heap.size #[.int .i64 0, .int .i64 0] 98 ∧ Box wr (W.heap.size + 1) #[.int .i64 x, .int .i64 y] 98 ∧ Hid ((x, y) = cornerUpto l k) ∧ Below W.heap.size W wr) (fun _ i _ => n - (intOf i).toNat)
  case atStart => exact ⟨0, _, _, by omega, rfl, (Box.new _ _ _).alloc _, by simpa using Box.new (W.alloc _) _ _, Lib.hid (by unfold cornerUpto; cases l <;> simp), (by repeat (first | (with_reducible exact Below.refl _ _) | (with_reducible assumption) | (with_reducible refine below_drewN ?_ _) | ((with_reducible refine Below.setCell ?_ ?_ _); rotate_left; focus (first | (simp; done) | (simp; omega) | omega)) | ((with_reducible refine Below.alloc ?_ ?_ _); rotate_left; focus (first | (simp; done) | (simp; omega) | omega)) | (with_reducible refine Below.drew ?_)))⟩
  case round =>
    obtain ⟨k, x, y, hk, rfl, hz, hx, HC, hB⟩ := hrel
    have hsz := hx.lt
    have d0 : wr.cell? ⟨W.heap.size + 1, 0, none⟩ = some (.int .i64 x) := by simpa using hx.cell 0
    have d1 : wr.cell? ⟨W.heap.size + 1, 1, none⟩ = some (.int .i64 y) := by simpa using hx.cell 1
    have f0 := hx.frozen 0
    have f1 := hx.frozen 1
    by_cases hlt : k < n
    · have g0 := (hB.cell (p := ⟨b0, o0 + k * 2, none⟩) hb0).trans (h0.fst _ _ rfl k hlt)
      have g1 := (hB.cell (p := ⟨b0, o0 + k * 2 + 1, none⟩) hb0).trans (h0.snd _ _ rfl k hlt)
      go_wp2_with fail
      refine ⟨⟨k + 1, _, _, by omega, by go_num, ((hz.setOther _ (by simp)).setOther _ (by simp)).alloc _, Box.alloc (by simpa using (hx.set 0 _).set 1 _) _, Lib.hid ?_, (by repeat (first | (with_reducible exact Below.refl _ _) | (with_reducible assumption) | (with_reducible refine below_drewN ?_ _) | ((with_reducible refine Below.setCell ?_ ?_ _); rotate_left; focus (first | (simp; done) | (simp; omega) | omega)) | ((with_reducible refine Below.alloc ?_ ?_ _); rotate_left; focus (first | (simp; done) | (simp; omega) | omega)) | (with_reducible refine Below.drew ?_)))⟩, by simp [intOf]; omega⟩
      rw [cornerUpto_succ l k (by rw [hl0.out]; omega), ← HC.out]; rfl
    · obtain rfl : n = k := by omega
      have z0 : wr.cell? ⟨W.heap.size, 0, none⟩ = some (.int .i64 0) := by simpa using hz.cell 0
      have z1 : wr.cell? ⟨W.heap.size, 1, none⟩ = some (.int .i64 0) := by simpa using hz.cell 1
      have y0 := hz.frozen 0
      have y1 := hz.frozen 1
      have HE : (x, y) = cornerL l := by rw [HC.out, ← cornerUpto_end, hl0.out]
      have HE := Lib.hid HE
      go_wp2_with fail
      refine bodyPost_ret (v := .agg #[.int .i64 x, .int .i64 y]) (by simp [results, Try.results88, go_sem, z0, z1]) rfl ?_
      exact retPlace_eq (by rw [← HE.out]) (by rw [← HE.out]) (by repeat (first | (with_reducible exact Below.refl _ _) | (with_reducible assumption) | (with_reducible refine below_drewN ?_ _) | ((with_reducible refine Below.setCell ?_ ?_ _); rotate_left; focus (first | (simp; done) | (simp; omega) | omega)) | ((with_reducible refine Below.alloc ?_ ?_ _); rotate_left; focus (first | (simp; done) | (simp; omega) | omega)) | (with_reducible refine Below.drew ?_)))
end Go.Proofs.Ytjiacdihfbbfjaa
