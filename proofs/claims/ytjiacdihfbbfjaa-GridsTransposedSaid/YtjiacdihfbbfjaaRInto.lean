/- Contract of ref14.Into. -/
import Derived.Test.YtjiacdihfbbfjaaRefX
import Derived.Test.YtjiacdihfbbfjaaMovM
import Derived.Maps.AppendAt
import Derived.WalkKit
import Derived.WalkSpells
import Derived.WalkLawsBesides
import Derived.Deep.LoopGhost
import Derived.Deep.QuietTactic
import Derived.BigQuiet
import Derived.StillTailTactics
import Derived.Lib.Hide
import Derived.Outline
import Derived.Lib.QuietBelow
namespace Go.Proofs.Ytjiacdihfbbfjaa
open Go.RowKit

def intoStep (p : List Int) (s : List (List Int) × Bool) (x : List Int) : List (List Int) × Bool :=
  let t := if !s.2 && !lessL x p then (s.1 ++ [p], true) else s
  if eqL x p then t else (t.1 ++ [x], t.2)
def intoUpto (ll : List (List Int)) (p : List Int) (k : Nat) : List (List Int) × Bool := (ll.take k).foldl (intoStep p) ([], false)
def intoL (ll : List (List Int)) (p : List Int) : List (List Int) := if (intoUpto ll p ll.length).2 then (intoUpto ll p ll.length).1 else (intoUpto ll p ll.length).1 ++ [p]
theorem intoUpto_succ (ll : List (List Int)) (p : List Int) (k : Nat) (h : k < ll.length) : intoUpto ll p (k + 1) = intoStep p (intoUpto ll p k) (ll[k]?.getD []) := by
  unfold intoUpto; rw [takeLL_getD ll k h, List.foldl_append]; rfl
theorem intoStep_len (p : List Int) (s : List (List Int) × Bool) (x : List Int) : (intoStep p s x).1.length ≤ s.1.length + 2 := by
  unfold intoStep
  simp only
  split <;> split <;> simp
theorem intoUpto_len (ll : List (List Int)) (p : List Int) : ∀ k, k ≤ ll.length → (intoUpto ll p k).1.length ≤ 2 * k := by
  intro k
  induction k with
  | zero => intro _; simp [intoUpto]
  | succ k ih =>
    intro h
    rw [intoUpto_succ ll p k (by omega)]
    have := intoStep_len p (intoUpto ll p k) (ll[k]?.getD [])
    have := ih (by omega)
    omega
def RetRows (W : World) (ll : List (List Int)) (e : Ending) (w' : World) : Prop := ∃ v, e = .returned v ∧ OwnRows w' W.heap.size 22 v ll ∧ Below W.heap.size W w'
/-- An elder slice does not lie in a new row. -/
theorem old_ne {W w : World} {a : Option Addr} {n c : Nat} {l : List Int} {E : TypeId} {v : Value} {m : Nat} {us : List Value} (h : Ints W a n c l) (hu : w.ownsRow W.heap.size E 1 v m us) : 0 < n → (Value.slice a n c).ownBlock ≠ v.ownBlock := by
  intro hn e
  obtain ⟨b, o, rfl, hb⟩ := h.at' hn
  have := (hu.lt b (by rw [← e]; rfl)).1
  omega
/-- The step of append(out, x) onto rows of the call's own: all in one. -/
theorem rows_append {W w w1 : World} {v v' : Value} {out : List (List Int)} {us : List Value} {x : List Int} {a : Option Addr} {n c : Nat} (o : Obj) (hB : Below W.heap.size W w) (hus : w.ownsRow W.heap.size 22 1 v out.length us) (hE : Elems w v.ownBlock us out) (hx : Ints W a n c x)
    (hown' : w1.ownsRow W.heap.size 22 1 v' (out.length + 1) (us ++ [.slice a n c])) (hgrow : (w.alloc o).grownBy w1 v.ownBlock) (hfr : v'.ownBlock = v.ownBlock ∨ v'.ownBlock = some (w.alloc o).heap.size) :
    OwnRows w1 W.heap.size 22 v' (out ++ [x]) ∧ Below W.heap.size W w1 :=
  ⟨OwnRows.push (hE.mono fun _ _ hu => hu.below ((Below.refl _ _).alloc (Nat.le_refl _) _)) hown' hgrow hfr (hx.below (hB.alloc hB.size _)) (old_ne hx hus),
   (hB.alloc hB.size _).grown hgrow (by simp; have := hB.size; omega) (fun q e => (hus.lt q e).1)⟩

set_option maxRecDepth 20000 in
set_option maxHeartbeats 2000000 in
theorem into_any (a0 ap : Option Addr) (n0 c0 np cp : Nat) (ll : List (List Int)) (p : List Int) (W : World) (h0 : Rows W a0 n0 c0 ll) (h1 : Ints W ap np cp p) (hn : n0 ≤ 100000) :
    Calls Try.prog 63 #[.slice a0 n0 c0, .slice ap np cp] W (RetRows W (intoL ll p)) := by
  have hm0 := h0.mx
  have hc0 := h0.cap
  have hl0 := Lib.hid h0.len
  obtain ⟨i22, hi22, hz220, hz221, hz222⟩ := info_parts info_ints
  unfold maxLen at hm0
  go_enter Try.func63, Try.ntmps63
  go_wp2_with fail
  go_loopw [5, 6, 7] (fun v d i wr => ∃ (k : Nat) (out : List (List Int)) (dn : Bool), k ≤ n0 ∧ i = .int .i64 k ∧ d = .bool dn ∧ Hid (intoUpto ll p k = (out, dn)) ∧ OwnRows wr W.heap.size 22 v out ∧ Below W.heap.size W wr) (fun _ _ i _ => n0 - (intOf i).toNat)
  case atStart => exact ⟨0, [], false, by omega, rfl, rfl, Lib.hid rfl, OwnRows.made0 _ _ _ (Nat.le_refl _), (by repeat (first | (with_reducible exact Below.refl _ _) | (with_reducible assumption) | (with_reducible refine below_drewN ?_ _) | ((with_reducible refine Below.setCell ?_ ?_ _); rotate_left; focus (first | (simp; done) | (simp; omega) | omega)) | ((with_reducible refine Below.alloc ?_ ?_ _); rotate_left; focus (first | (simp; done) | (simp; omega) | omega)) | (with_reducible refine Below.drew ?_)))⟩
  case round =>
    obtain ⟨k, out, dn, hk, rfl, rfl, HU, hO, hB⟩ := hrel
    obtain ⟨us, hus, hE⟩ := hO
    have hlen : out.length ≤ 200000 := by
      have := intoUpto_len ll p k (by rw [hl0.out]; omega)
      rw [HU.out] at this; simp only at this; omega
    have hsz := hB.size
    by_cases hlt : k < n0
    · obtain ⟨b0, o0, rfl, hb0⟩ := h0.at' (by omega)
      obtain ⟨ai, ni, ci, e0, hI0⟩ := h0.row _ _ rfl k hlt
      have e1 := (hB.cell (p := ⟨b0, o0 + k, none⟩) hb0).trans e0
      have HS := Lib.hid (intoUpto_succ ll p k (by rw [hl0.out]; exact hlt))
      rw [HU.out] at HS
      obtain ⟨x, hx⟩ : ∃ x, ll[k]?.getD [] = x := ⟨_, rfl⟩
      rw [hx] at HS hI0
      clear hx
      unfold intoStep at HS
      have HI0 := hI0
      have h2 := hI0.below hB
      cases dn
      · cases hls : lessL x p
        · have HLS := Lib.hid hls
          have hc := less_any _ _ _ _ _ _ x p wr h2 (h1.below hB)
          rw [hls] at hc HS
          have HC := Lib.hid hc
          clear hc hls
          go_wp2_with (first | (go_at_call 32; refine HC.out.mono ?_; rintro e w' ⟨rfl, q, rfl⟩; have hus2 := ownsRow_drewN hus q; have hB2 := below_drewN hB q; have hE2 := hE.mono fun _ _ hu => hu.below (Below.drewN0 wr q)) | ((at_builtin; refine wpList_append_own2 _ rfl _ _ 28 rfl W.heap.size 22 i22 (.slice none 0 0) 1 24 Try.underlying28 hi22 hz220 hz221 hz222 rfl (by decide) _ _ _ (hus2.alloc _) rfl ⟨_, 0, none⟩ 1 1 [(.slice ap np cp)] rfl rfl (cell_one_new _ _ _) (by simp [Value.oneCell']) (by unfold maxLen; omega) (by omega) (by first | omega | (simp; omega)) ?_; intro v' w1 hown' hgrow hfr); obtain ⟨hO3, hB3⟩ := rows_append _ hB2 hus2 hE2 h1 hown' hgrow hfr; have e2 := (hB3.cell (p := ⟨b0, o0 + k, none⟩) hb0).trans e0; clear e1 hown' hgrow hfr hus2 hB2 hE2))
          have hln2 : (out ++ [p]).length ≤ 200001 := by simp; omega
          have hsq := hB3.size
          cases heq : eqL x p
          · have hc := equal_any _ _ _ _ _ _ x p _ (HI0.below hB3) (h1.below hB3)
            rw [heq] at hc HS
            have HQ := Lib.hid hc
            clear hc heq
            obtain ⟨us3, hus3, hE3⟩ := hO3
            go_wp2_with (first | (go_at_call 34; refine HQ.out.mono ?_; rintro e w' ⟨rfl, q3, rfl⟩; have hus4 := ownsRow_drewN hus3 q3; have hB4 := below_drewN hB3 q3; have hE4 := hE3.mono fun _ _ hu => hu.below (Below.drewN0 _ q3)) | ((at_builtin; refine wpList_append_own2 _ rfl _ _ 28 rfl W.heap.size 22 i22 (.slice none 0 0) 1 24 Try.underlying28 hi22 hz220 hz221 hz222 rfl (by decide) _ _ _ (hus4.alloc _) rfl ⟨_, 0, none⟩ 1 1 [(.slice ai ni ci)] rfl rfl (cell_one_new _ _ _) (by simp [Value.oneCell']) (by unfold maxLen; omega) (by omega) (by first | omega | (simp; omega)) ?_; intro v' w1 hown' hgrow hfr)))
            have h := rows_append _ hB4 hus4 hE4 HI0 hown' (by first | exact hgrow | (rw [World.drewN_drewN]; exact hgrow)) (by first | exact hfr | (rw [World.drewN_drewN]; exact hfr))
            go_roundw
            case rel => exact ⟨k + 1, (out ++ [p]) ++ [x], true, by omega, by go_num, rfl, Lib.hid HS.out, h.1, h.2⟩
            case measure => simp [intOf]; omega
          · have hc := equal_any _ _ _ _ _ _ x p _ (HI0.below hB3) (h1.below hB3)
            rw [heq] at hc HS
            have HQ := Lib.hid hc
            clear hc heq
            go_wp2_with (go_at_call 34; refine HQ.out.mono ?_; rintro e w' ⟨rfl, q3, rfl⟩)
            go_roundw
            case rel => exact ⟨k + 1, (out ++ [p]), true, by omega, by go_num, rfl, Lib.hid HS.out, (by first | exact hO3.drewN _ | (rw [← World.drewN_drewN]; exact hO3.drewN _)), (by first | exact below_drewN hB3 _ | (rw [← World.drewN_drewN]; exact below_drewN hB3 _))⟩
            case measure => simp [intOf]; omega
        · have HLS := Lib.hid hls
          have hc := less_any _ _ _ _ _ _ x p wr h2 (h1.below hB)
          rw [hls] at hc HS
          have HC := Lib.hid hc
          clear hc hls
          go_wp2_with (go_at_call 32; refine HC.out.mono ?_; rintro e w' ⟨rfl, q, rfl⟩; have hB3 := below_drewN hB q; have hO3 := OwnRows.drewN ⟨us, hus, hE⟩ q)
          have hsq := hB3.size
          cases heq : eqL x p
          · have hc := equal_any _ _ _ _ _ _ x p _ (HI0.below hB3) (h1.below hB3)
            rw [heq] at hc HS
            have HQ := Lib.hid hc
            clear hc heq
            obtain ⟨us3, hus3, hE3⟩ := hO3
            go_wp2_with (first | (go_at_call 34; refine HQ.out.mono ?_; rintro e w' ⟨rfl, q3, rfl⟩; have hus4 := ownsRow_drewN hus3 q3; have hB4 := below_drewN hB3 q3; have hE4 := hE3.mono fun _ _ hu => hu.below (Below.drewN0 _ q3)) | ((at_builtin; refine wpList_append_own2 _ rfl _ _ 28 rfl W.heap.size 22 i22 (.slice none 0 0) 1 24 Try.underlying28 hi22 hz220 hz221 hz222 rfl (by decide) _ _ _ (hus4.alloc _) rfl ⟨_, 0, none⟩ 1 1 [(.slice ai ni ci)] rfl rfl (cell_one_new _ _ _) (by simp [Value.oneCell']) (by unfold maxLen; omega) (by omega) (by first | omega | (simp; omega)) ?_; intro v' w1 hown' hgrow hfr)))
            have h := rows_append _ hB4 hus4 hE4 HI0 hown' (by first | exact hgrow | (rw [World.drewN_drewN]; exact hgrow)) (by first | exact hfr | (rw [World.drewN_drewN]; exact hfr))
            go_roundw
            case rel => exact ⟨k + 1, out ++ [x], false, by omega, by go_num, rfl, Lib.hid HS.out, h.1, h.2⟩
            case measure => simp [intOf]; omega
          · have hc := equal_any _ _ _ _ _ _ x p _ (HI0.below hB3) (h1.below hB3)
            rw [heq] at hc HS
            have HQ := Lib.hid hc
            clear hc heq
            go_wp2_with (go_at_call 34; refine HQ.out.mono ?_; rintro e w' ⟨rfl, q3, rfl⟩)
            go_roundw
            case rel => exact ⟨k + 1, out, false, by omega, by go_num, rfl, Lib.hid HS.out, (by first | exact hO3.drewN _ | (rw [← World.drewN_drewN]; exact hO3.drewN _)), (by first | exact below_drewN hB3 _ | (rw [← World.drewN_drewN]; exact below_drewN hB3 _))⟩
            case measure => simp [intOf]; omega
      · have hB3 := hB
        have hO3 : OwnRows wr W.heap.size 22 _ out := ⟨us, hus, hE⟩
        go_wp2_with fail
        have hsq := hB3.size
        cases heq : eqL x p
        · have hc := equal_any _ _ _ _ _ _ x p _ (HI0.below hB3) (h1.below hB3)
          rw [heq] at hc HS
          have HQ := Lib.hid hc
          clear hc heq
          obtain ⟨us3, hus3, hE3⟩ := hO3
          go_wp2_with (first | (go_at_call 34; refine HQ.out.mono ?_; rintro e w' ⟨rfl, q3, rfl⟩; have hus4 := ownsRow_drewN hus3 q3; have hB4 := below_drewN hB3 q3; have hE4 := hE3.mono fun _ _ hu => hu.below (Below.drewN0 _ q3)) | ((at_builtin; refine wpList_append_own2 _ rfl _ _ 28 rfl W.heap.size 22 i22 (.slice none 0 0) 1 24 Try.underlying28 hi22 hz220 hz221 hz222 rfl (by decide) _ _ _ (hus4.alloc _) rfl ⟨_, 0, none⟩ 1 1 [(.slice ai ni ci)] rfl rfl (cell_one_new _ _ _) (by simp [Value.oneCell']) (by unfold maxLen; omega) (by omega) (by first | omega | (simp; omega)) ?_; intro v' w1 hown' hgrow hfr)))
          have h := rows_append _ hB4 hus4 hE4 HI0 hown' (by first | exact hgrow | (rw [World.drewN_drewN]; exact hgrow)) (by first | exact hfr | (rw [World.drewN_drewN]; exact hfr))
          go_roundw
          case rel => exact ⟨k + 1, out ++ [x], true, by omega, by go_num, rfl, Lib.hid HS.out, h.1, h.2⟩
          case measure => simp [intOf]; omega
        · have hc := equal_any _ _ _ _ _ _ x p _ (HI0.below hB3) (h1.below hB3)
          rw [heq] at hc HS
          have HQ := Lib.hid hc
          clear hc heq
          go_wp2_with (go_at_call 34; refine HQ.out.mono ?_; rintro e w' ⟨rfl, q3, rfl⟩)
          go_roundw
          case rel => exact ⟨k + 1, out, true, by omega, by go_num, rfl, Lib.hid HS.out, (by first | exact hO3.drewN _ | (rw [← World.drewN_drewN]; exact hO3.drewN _)), (by first | exact below_drewN hB3 _ | (rw [← World.drewN_drewN]; exact below_drewN hB3 _))⟩
          case measure => simp [intOf]; omega
    · obtain rfl : n0 = k := by omega
      cases dn
      · go_wp2_with (at_builtin; refine wpList_append_own2 _ rfl _ _ 28 rfl W.heap.size 22 i22 (.slice none 0 0) 1 24 Try.underlying28 hi22 hz220 hz221 hz222 rfl (by decide) _ _ _ (hus.alloc _) rfl ⟨_, 0, none⟩ 1 1 [(.slice ap np cp)] rfl rfl (cell_one_new _ _ _) (by simp [Value.oneCell']) (by unfold maxLen; omega) (by omega) (by first | omega | (simp; omega)) ?_; intro v' w1 hown' hgrow hfr)
        go_ret
        have h := rows_append _ hB hus hE h1 hown' hgrow hfr
        refine ⟨_, rfl, ?_, h.2⟩
        unfold intoL
        rw [hl0.out, HU.out]
        exact h.1
      · go_wp2_with fail
        go_ret
        refine ⟨_, rfl, ?_, hB⟩
        unfold intoL
        rw [hl0.out, HU.out]
        exact ⟨us, hus, hE⟩
end Go.Proofs.Ytjiacdihfbbfjaa

