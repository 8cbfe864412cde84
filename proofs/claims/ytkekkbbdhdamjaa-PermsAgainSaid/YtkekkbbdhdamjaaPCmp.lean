/- Contracts of after, Product, Compose, Inverse, Identity, Check. -/
import Derived.Test.YtkekkbbdhdamjaaPIs
import Derived.Test.YtkekkbbdhdamjaaPArr
import Derived.WalkKit
import Derived.WalkSpells
import Derived.WalkLawsBesides
import Derived.Deep.LoopGhost
import Derived.Deep.QuietTactic
import Derived.BigQuiet
import Derived.StillTailTactics
import Derived.Lib.Hide
import Derived.Outline
import Derived.Lib.QuietBelow
namespace Go.Proofs.Ytkekkbbdhdamjaa
open Go.RowKit

def RetOwnE (w : World) (E : TypeId) (l : List Int) (er : Int) (e : Ending) (w' : World) : Prop := ∃ v, e = .returned (.tuple #[v, .int .i64 er]) ∧ OwnInts w' w.heap.size E v l ∧ Below w.heap.size w w'
theorem prodL_take {a b : List Int} {k : Nat} {x : Int} (hx : b[k]? = some x) : prodL a (b.take (k + 1)) = prodL a (b.take k) ++ [a.getD x.toNat 0] := by
  unfold prodL; rw [List.take_add_one, hx]; simp
theorem prodL_len (a b : List Int) : (prodL a b).length = b.length := by simp [prodL]

set_option maxHeartbeats 4000000 in
theorem after_any (a0 a1 : Option Addr) (m c n d : Nat) (a b : List Int) (W : World) (h0 : Ints W a0 m c a) (h1 : Ints W a1 n d b) (hb : ∀ x ∈ b, 0 ≤ x ∧ x < m) (hn : n ≤ 1000000) :
    Calls Try.prog 30 #[.slice a0 m c, .slice a1 n d] W (RetOwn W 3 (prodL a b)) := by
  have HL := Lib.hid h1.len
  have HBB := Lib.hid hb
  have hmk := make_intsP n hn
  have hbx := Box.new W (arrI n []) 3
  have hal : Below W.heap.size W (W.alloc (.cells (arrI n []) 3)) := (Below.refl _ _).alloc (Nat.le_refl _) _
  rw [arrI_nil] at hmk
  clear hb
  go_enter Try.func30, Try.ntmps30
  go_wp2_with fail
  go_loopw [13] (fun i wr => ∃ k : Nat, i = .int .i64 k ∧ k ≤ n ∧ Box wr W.heap.size (arrI n (prodL a (b.take k))) 3 ∧ Below W.heap.size W wr) (fun i _ => n - (intOf i).toNat)
  case atStart => exact ⟨0, rfl, by omega, by simpa [prodL] using hbx, hal⟩
  case round =>
    clear hbx hal hmk
    obtain ⟨k, rfl, hk, hbx, hB⟩ := hrel
    by_cases hlt : k < n
    · obtain ⟨b1, o1, rfl, hb1⟩ := h1.at' (by omega)
      obtain ⟨x, hx⟩ := h1.has hlt
      have e0 := (h1.below hB).get hx
      obtain ⟨hx0, hx1⟩ := HBB.out x (List.mem_of_getElem? hx)
      obtain ⟨X, rfl⟩ : ∃ X : Nat, x = (X : Int) := ⟨x.toNat, by omega⟩
      obtain ⟨b0, o0, rfl, hb0⟩ := h0.at' (by omega)
      obtain ⟨y, hy⟩ := h0.has (i := X) (by omega)
      have e1 := (h0.below hB).get hy
      have s0 : (0 : Int) ≤ (k : Int) := by omega
      have s1 : (k : Int) < (n : Int) := by omega
      have s2 : (0 : Int) ≤ (X : Int) := by omega
      have s3 : (X : Int) < (m : Int) := by omega
      have gf := hbx.frozen k
      have hth : ∃ v, wr.cell? ⟨W.heap.size, k, none⟩ = some v := ⟨_, (hbx.cell k).trans (arrI_get _ _ hlt)⟩
      obtain ⟨v0, hv0⟩ := hth
      have hset := hbx.set k (.int .i64 y)
      rw [arrI_set n _ y (by rw [prodL_len, List.length_take, HL.out]; omega) hlt] at hset
      have HSET : Hid (Box (wr.setCell ⟨W.heap.size, k, none⟩ (.int .i64 y)) W.heap.size (arrI n (prodL a (b.take (k + 1)))) 3) := Lib.hid (by
        rw [prodL_take hx, List.getD_eq_getElem?_getD, Int.toNat_natCast, hy]; exact hset)
      have hB2 : Below W.heap.size W (wr.setCell ⟨W.heap.size, k, none⟩ (.int .i64 y)) := hB.setCell (Nat.le_refl _) _
      clear hset hbx hx hy hx0 hx1
      go_wp2_with fail
      go_roundw
      case rel => exact ⟨k + 1, by go_num, by omega, HSET.out, hB2⟩
      case measure => simp [intOf]; omega
    · obtain rfl : n = k := by omega
      rw [List.take_of_length_le (by rw [HL.out]; omega)] at hbx
      have HO := Lib.hid (own_arr (base := W.heap.size) hbx (by rw [prodL_len, HL.out]) (Nat.le_refl _) hn)
      clear hbx
      go_wp2_with fail
      go_ret
      exact ⟨_, rfl, HO.out, hB⟩

set_option maxHeartbeats 4000000 in
theorem product_any (a0 a1 : Option Addr) (m c n d : Nat) (a b : List Int) (W : World) (h0 : Ints W a0 m c a) (h1 : Ints W a1 n d b) (hb : ∀ x ∈ b, 0 ≤ x ∧ x < m) (hn : n ≤ 1000000) :
    Calls Try.prog 28 #[.slice a0 m c, .slice a1 n d] W (RetOwn W 3 (prodL a b)) := by
  have HL := Lib.hid h1.len
  have HBB := Lib.hid hb
  have hm0 := OwnInts.made0 W 3 W.heap.size (Nat.le_refl _)
  have hal : Below W.heap.size W (W.alloc (.cells #[] 3)) := (Below.refl _ _).alloc (Nat.le_refl _) _
  obtain ⟨i3, hi3, hz30, hz31, hz32⟩ := info_parts info_int
  clear hb
  go_enter Try.func28, Try.ntmps28
  go_wp2_with fail
  go_loopw [5, 6] (fun v i wr => ∃ k : Nat, i = .int .i64 k ∧ k ≤ n ∧ OwnInts wr W.heap.size 3 v (prodL a (b.take k)) ∧ Below W.heap.size W wr) (fun _ i _ => n - (intOf i).toNat)
  case atStart => exact ⟨0, rfl, by omega, by simpa [prodL] using hm0, hal⟩
  case round =>
    clear hm0 hal
    obtain ⟨k, rfl, hk, hO, hB⟩ := hrel
    by_cases hlt : k < n
    · obtain ⟨b1, o1, rfl, hb1⟩ := h1.at' (by omega)
      obtain ⟨x, hx⟩ := h1.has hlt
      have e0 := (h1.below hB).get hx
      obtain ⟨hx0, hx1⟩ := HBB.out x (List.mem_of_getElem? hx)
      obtain ⟨X, rfl⟩ : ∃ X : Nat, x = (X : Int) := ⟨x.toNat, by omega⟩
      obtain ⟨b0, o0, rfl, hb0⟩ := h0.at' (by omega)
      obtain ⟨y, hy⟩ := h0.has (i := X) (by omega)
      have e1 := (h0.below hB).get hy
      have s0 : (0 : Int) ≤ (k : Int) := by omega
      have s1 : (k : Int) < (n : Int) := by omega
      have s2 : (0 : Int) ≤ (X : Int) := by omega
      have s3 : (X : Int) < (m : Int) := by omega
      have HT : Hid (prodL a (b.take (k + 1)) = prodL a (b.take k) ++ [y]) := Lib.hid (by
        rw [prodL_take hx, List.getD_eq_getElem?_getD, Int.toNat_natCast, hy]; rfl)
      have hll : (prodL a (b.take k)).length = k := by rw [prodL_len, List.length_take, HL.out]; omega
      have hol := hO.lt
      have hsz := hB.size
      obtain ⟨L, hLe⟩ : ∃ L, prodL a (b.take k) = L := ⟨_, rfl⟩
      rw [hLe] at hO hll HT
      unfold OwnInts at hO
      rw [hll] at hO
      clear hx hy hx0 hx1 hLe
      obtain ⟨av, cv, rfl, _, _⟩ := own_slice hO
      go_wp2_with (at_builtin; refine wpList_append_own2 _ rfl _ _ 22 rfl W.heap.size 3 i3 (.int .i64 0) 1 8 Try.underlying22 hi3 hz30 hz31 hz32 rfl (by decide) _ _ _ (hO.alloc _) rfl ⟨_, 0, none⟩ 1 1 [.int .i64 y] rfl rfl (cell_one_new _ _ _) (by simp [Value.oneCell']) (by unfold maxLen; omega) (by omega) (by first | omega | (simp; omega)) ?_; intro v' w1 hown' hgrow hfr)
      go_roundw
      case rel =>
        refine ⟨k + 1, by go_num, by omega, ?_, (hB.alloc hsz _).grown hgrow (by simp; omega) (fun q e => (hol q e).1)⟩
        rw [HT.out]
        exact OwnInts.snoc (by rw [hll]; exact hown')
      case measure => simp [intOf]; omega
    · obtain rfl : n = k := by omega
      rw [List.take_of_length_le (by rw [HL.out]; omega)] at hO
      have HO := Lib.hid hO
      clear hO
      go_wp2_with fail
      go_ret
      exact ⟨_, rfl, HO.out, hB⟩
end Go.Proofs.Ytkekkbbdhdamjaa
