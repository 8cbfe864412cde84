/- Contract of perms.keyOf: a list of small numbers as an array of bytes. -/
import Derived.Deep.MidRow
import Derived.Test.YtkekkbbdhdamjaaPClo
import Derived.WalkKit
import Derived.WalkSpells
import Derived.WalkLawsBesides
import Derived.Deep.LoopGhost
import Derived.Deep.QuietTactic
import Derived.BigQuiet
import Derived.StillTailTactics
import Derived.Lib.Hide
import Derived.Outline
import Derived.Lib.QuietBelow
namespace Go.Proofs.Ytkekkbbdhdamjaa
open Go.RowKit

def kArr (l : List Int) : Array Value := ((List.range 256).map fun (i : Nat) => Value.int .u8 (l[i]?.getD 0)).toArray
abbrev keyP (l : List Int) : Value := .agg (kArr l)
theorem kArr_size (l : List Int) : (kArr l).size = 256 := by unfold kArr; simp
theorem kArr_len (l : List Int) : (kArr l).toList.length = 256 := by unfold kArr; simp
theorem kArr_get (l : List Int) {i : Nat} (h : i < 256) : (kArr l)[i]? = some (.int .u8 (l[i]?.getD 0)) := by unfold kArr; simp [h]
theorem kArr_set (l : List Int) (x : Int) {k : Nat} (hk : l.length = k) (h : k < 256) : (kArr l).setIfInBounds k (.int .u8 x) = kArr (l ++ [x]) := by
  subst hk
  apply Array.ext_getElem?
  intro i
  by_cases hi : i < 256
  · rw [kArr_get _ hi]
    by_cases hc : l.length = i
    · subst hc
      rw [Array.getElem?_setIfInBounds_self_of_lt (by rw [kArr_size]; exact h)]
      simp
    · rw [Array.getElem?_setIfInBounds_ne hc, kArr_get _ hi]
      by_cases hl : i < l.length
      · rw [List.getElem?_append_left hl]
      · rw [List.getElem?_append_right (by omega), List.getElem?_eq_none (by omega), List.getElem?_eq_none (by simp; omega)]
  · rw [Array.getElem?_eq_none (by simp [kArr_size]; omega), Array.getElem?_eq_none (by rw [kArr_size]; omega)]
theorem kArr_zero : Try.zeroCells51 = kArr [] := by kernel_rfl
theorem kArr_one (l : List Int) : ∀ v ∈ (kArr l).toList, v.oneCell' = true := by
  intro v hv
  unfold kArr at hv
  rw [List.toList_toArray] at hv
  obtain ⟨i, _, rfl⟩ := List.mem_map.1 hv
  rfl
theorem below_setCells {n0 b : Nat} {w0 : World} (hb : n0 ≤ b) : ∀ (vs : List Value) (o : Nat) (w : World), Below n0 w0 w → Below n0 w0 (w.setCells b o vs)
  | [], _, _, h => h
  | v :: r, o, _w, h => below_setCells hb r (o + 1) _ (h.setCell (p := ⟨b, o, none⟩) hb v)
theorem Box.range {w : World} {b : Nat} {cs : Array Value} {t : TypeId} (h : Box w b cs t) : w.rangeAt b 0 cs.toList := fun j v hv => by
  rw [Nat.zero_add, h.cell j, ← Array.getElem?_toList]; exact hv
theorem Box.there {w : World} {b : Nat} {cs : Array Value} {t : TypeId} (h : Box w b cs t) : w.there b 0 cs.size := fun j hj => by
  rw [Nat.zero_add, h.cell j]
  exact ⟨by rw [Array.getElem?_eq_getElem hj]; rfl, h.frozen j⟩
theorem results_cell_mid {fn : Func} {p : Tmp} {ty : TypeId} (h : fn.results = #[.cell p ty]) (tmps : Array Value) (w : World) (b : Nat) (cs : List Value) (d : TypeDesc)
    (hp : tmps.getD p undef = .pointer (some ⟨b, 0, none⟩)) (hc : w.rangeAt b 0 cs)
    (hu : Try.prog.underlying ty = some d) (hd : d.isRow = true) (hi : (Try.prog.info? ty).map (·.size) = some cs.length) :
    (results fn tmps).run Try.prog w = .ok (.agg cs.toArray) w := by
  have hp' : tmps[p]?.getD undef = .pointer (some ⟨b, 0, none⟩) := by simpa using hp
  simp [results, h, hp', asAddr, run_loadVar_mid (P := Try.prog) w b 0 ty cs d hc hu hd hi]
theorem info_key : (Try.prog.info? 51).map (·.size) = some 256 := by kernel_rfl
theorem keyP_inj {a b : List Int} {n : Nat} (ha : a.length = n) (hb : b.length = n) (hn : n ≤ 256) (h : keyP a = keyP b) : a = b := by
  injection h with h
  refine List.ext_getElem? fun i => ?_
  by_cases hi : i < n
  · have h1 := kArr_get a (i := i) (by omega)
    have h2 := kArr_get b (i := i) (by omega)
    rw [h, h2] at h1
    have e1 : a[i]? = some (a[i]'(by omega)) := List.getElem?_eq_getElem _
    have e2 : b[i]? = some (b[i]'(by omega)) := List.getElem?_eq_getElem _
    rw [e1, e2] at h1
    simp at h1
    rw [e1, e2, h1]
  · rw [List.getElem?_eq_none (by omega), List.getElem?_eq_none (by omega)]

set_option maxRecDepth 20000 in
set_option maxHeartbeats 4000000 in
theorem keyOf_any (a0 : Option Addr) (m c : Nat) (p : List Int) (W : World) (h0 : Ints W a0 m c p) (hm : m ≤ 256) (hp : ∀ x ∈ p, 0 ≤ x ∧ x < 256) :
    Calls Try.prog 33 #[.slice a0 m c] W (RetB W (keyP p)) := by
  have HL := Lib.hid h0.len
  have HP := Lib.hid hp
  clear hp
  have hbx := Box.new W Try.zeroCells51 51
  obtain ⟨wk, hwk⟩ : ∃ wk, W.alloc (.cells Try.zeroCells51 51) = wk := ⟨_, rfl⟩
  have hal : Below W.heap.size W wk := hwk ▸ (Below.refl _ _).alloc (Nat.le_refl _) _
  rw [hwk] at hbx
  rw [kArr_zero] at hbx
  go_enter Try.func33, Try.ntmps33
  go_wp2_with fail
  go_loopw [7] (fun i wr => ∃ k : Nat, i = .int .i64 k ∧ k ≤ m ∧ Box wr W.heap.size (kArr (p.take k)) 51 ∧ Below W.heap.size W wr) (fun i _ => m - (intOf i).toNat)
  case atStart => exact ⟨0, rfl, by omega, by simpa using hbx, hal⟩
  case round =>
    clear hbx hal hwk
    obtain ⟨k, rfl, hk, hbx, hB⟩ := hrel
    by_cases hlt : k < m
    · obtain ⟨b0, o0, rfl, hb0⟩ := h0.at' (by omega)
      obtain ⟨x, hx⟩ := h0.has hlt
      have e0 := (h0.below hB).get hx
      obtain ⟨hx0, hx1⟩ := HP.out x (List.mem_of_getElem? hx)
      have s0 : (0 : Int) ≤ (k : Int) := by omega
      have s1 : (k : Int) < (m : Int) := by omega
      have s2 : (k : Int) < 256 := by omega
      have hw : IntKind.u8.wrap x = x := by (try rw [IntKind.wrap_u8]); omega
      have gf := hbx.frozen k
      obtain ⟨v0, hv0⟩ : ∃ v, wr.cell? ⟨W.heap.size, k, none⟩ = some v := ⟨_, (hbx.cell k).trans (kArr_get _ (by omega))⟩
      have hset := hbx.set k (.int .u8 x)
      rw [kArr_set _ x (by rw [List.length_take, HL.out]; omega) (by omega)] at hset
      have HSET : Hid (Box (wr.setCell ⟨W.heap.size, k, none⟩ (.int .u8 x)) W.heap.size (kArr (p.take (k + 1))) 51) := Lib.hid (by rw [List.take_add_one, hx]; exact hset)
      have hB2 : Below W.heap.size W (wr.setCell ⟨W.heap.size, k, none⟩ (.int .u8 x)) := hB.setCell (Nat.le_refl _) _
      clear hset hbx hx
      go_wp2_with fail
      go_roundw
      case rel => exact ⟨k + 1, by go_num, by omega, HSET.out, hB2⟩
      case measure => simp [intOf]; omega
    · obtain rfl : m = k := by omega
      rw [List.take_of_length_le (by rw [HL.out]; omega)] at hbx
      have hrg := hbx.range
      have hth := hbx.there
      rw [kArr_size] at hth
      have hb7 : Below W.heap.size W (wr.setCells W.heap.size 0 (kArr p).toList) := below_setCells (Nat.le_refl _) _ _ _ hB
      have hr7 : (wr.setCells W.heap.size 0 (kArr p).toList).rangeAt W.heap.size 0 (kArr p).toList := World.rangeAt_setCells_same _ _ _ _ (by rw [kArr_len]; exact hth)
      have hi7 : (Try.prog.info? 51).map (·.size) = some (kArr p).toList.length := by rw [kArr_len]; exact info_key
      have ho7 := kArr_one p
      obtain ⟨vs, hvs⟩ : ∃ vs, (kArr p).toList = vs := ⟨_, rfl⟩
      have HVS := Lib.hid hvs
      rw [hvs] at hrg hb7 hr7 hi7 ho7
      have hl7 : vs.length = 256 := by rw [← hvs, kArr_len]
      have hst : (storeCells ⟨W.heap.size, 0, none⟩ vs).run Try.prog wr = .ok () (wr.setCells W.heap.size 0 vs) := by
        have := run_storeCells_cells (P := Try.prog) W.heap.size 0 vs 0 wr (fun j hj => by simpa using (hth j (by omega)).1) (fun j hj => by simpa using (hth j (by omega)).2) ho7
        simpa only [Nat.add_zero] using this
      clear hbx hvs
      go_wp2_with (first | (refine wpList_load_mid rfl 51 _ rfl W.heap.size 0 rfl vs _ hrg Try.underlying51 rfl hi7 ?_))
      refine bodyPost_ret (v := .agg vs.toArray) (results_cell_mid Try.results33 _ _ _ _ _ rfl hr7 Try.underlying51 rfl hi7) rfl ?_
      exact ⟨by rw [← HVS.out], hb7⟩
end Go.Proofs.Ytkekkbbdhdamjaa
