/- Contract of ref.Closure. -/
import Derived.Test.YtkekkbbdhdamjaaPIns
import Derived.Test.YtkekkbbdhdamjaaPCmp2
import Derived.Deep.RegionHeld3
import Derived.WalkKit
import Derived.WalkSpells
import Derived.WalkLawsBesides
import Derived.Deep.LoopGhost
import Derived.Deep.QuietTactic
import Derived.BigQuiet
import Derived.StillTailTactics
import Derived.Lib.Hide
import Derived.Outline
import Derived.Lib.QuietBelow
namespace Go.Proofs.Ytkekkbbdhdamjaa
open Go.RowKit

def rowsOf : Option (List (List Int)) → List (List Int)
  | none => []
  | some L => sortP L
def errOf : Option (List (List Int)) → Int
  | none => 2
  | some _ => 0
def closE (n : Int) (gens : List (List Int)) : Int := if validE n gens ≠ 0 then validE n gens else errOf (bfsL n.toNat gens)
def closR (n : Int) (gens : List (List Int)) : List (List Int) := if validE n gens ≠ 0 then [] else rowsOf (bfsL n.toNat gens)
def RetRows (w : World) (ll : List (List Int)) (er : Int) (e : Ending) (w' : World) : Prop := ∃ a n c, e = .returned (.tuple #[.slice a n c, .int .i64 er]) ∧ Rows w' a n c ll ∧ Below w.heap.size w w'
theorem validE_zero {n : Int} {gens : List (List Int)} (h : validE n gens = 0) : 0 ≤ n ∧ n ≤ 256 ∧ gens.length ≤ 1024 ∧ ∀ g ∈ gens, okPerm g n.toNat := by
  unfold validE at h
  by_cases h1 : n < 0 ∨ 256 < n
  · rw [if_pos h1] at h; cases h
  · rw [if_neg h1] at h
    by_cases h2 : 1024 < gens.length
    · rw [if_pos h2] at h; cases h
    · rw [if_neg h2] at h
      cases h3 : gens.all (fun g => permB g n.toNat)
      · rw [h3] at h; cases h
      · rw [List.all_eq_true] at h3
        exact ⟨by omega, by omega, by omega, fun g hg => permB_iff.1 (h3 g hg)⟩

/-- Blocks that stand and are not the row's own. -/
def PT (w : World) (vt : Value) (q : Nat) : Prop := q < w.heap.size ∧ vt.ownBlock ≠ some q
theorem PT.on {w w' : World} {vt : Value} (hb : w.heap.size ≤ w'.heap.size) {q : Nat} (h : PT w vt q) : PT w' vt q := ⟨Nat.lt_of_lt_of_le h.1 hb, h.2⟩
/-- A row to which one appends, and another slice of lists; their lists lie elsewhere. -/
structure Pair (w : World) (base : Nat) (vt : Value) (L : List (List Int)) (af : Option Addr) (nf cf : Nat) (F : List (List Int)) : Prop where
  todo : ORows w base (PT w vt) 22 vt L
  found : Rows w af nf cf F
  all : RowsAll w (PT w vt) af nf
  ne : 0 < nf → (Value.slice af nf cf).ownBlock ≠ vt.ownBlock
variable {w w' : World} {base nf cf : Nat} {vt : Value} {L F : List (List Int)} {af : Option Addr}
theorem Pair.below (h : Pair w base vt L af nf cf F) (hb : Below w.heap.size w w') : Pair w' base vt L af nf cf F :=
  ⟨(h.todo.below hb).imp fun _ => PT.on hb.size, h.found.below hb, (h.all.below h.found hb).imp fun _ => PT.on hb.size, h.ne⟩
/-- One more. -/
theorem Pair.step {vt' : Value} {us : List Value} {ap : Option Addr} {np cp : Nat} {p : List Int} (hold : Olds w (PT w vt) us L) (hp : Ints w ap np cp p) (hpq : ∀ q, 0 < np → (Value.slice ap np cp).ownBlock = some q → PT w vt q)
    (hF : Rows w af nf cf F) (hA : RowsAll w (PT w vt) af nf) (hne : 0 < nf → (Value.slice af nf cf).ownBlock ≠ vt.ownBlock)
    (hown : w'.ownsRow base 22 1 vt' (L.length + 1) (us ++ [.slice ap np cp])) (hg : w.grownBy w' vt.ownBlock) (hfr : vt'.ownBlock = vt.ownBlock ∨ vt'.ownBlock = some w.heap.size) : Pair w' base vt' (L ++ [p]) af nf cf F := by
  have hPT : ∀ q, PT w vt q → PT w' vt' q := by
    intro q hq
    refine ⟨Nat.lt_of_lt_of_le hq.1 hg.size, ?_⟩
    rcases hfr with e | e
    · rw [e]; exact hq.2
    · rw [e]; intro e2; injection e2 with e2; have := hq.1; omega
  have hr : ∀ q, vt.ownBlock = some q → ¬ PT w vt q := fun q e h => h.2 e
  have hgr := hF.grown hA hg hne hr
  refine ⟨⟨us ++ [.slice ap np cp], by rw [List.length_append]; exact hown, ((hold.append (Olds.one hp hpq)).grown hg hr).imp hPT⟩, hgr.1, hgr.2.imp hPT, fun h0 => ?_⟩
  rcases hfr with e | e
  · rw [e]; exact hne h0
  · rw [e]
    obtain ⟨b, o, rfl, hlt⟩ := hF.at' h0
    simp [Value.ownBlock]; omega

theorem Grow.add {n : Nat} {gens L : List (List Int)} {g q : List Int} (h : Grow n gens L) (hq : q ∈ L) (hg : g ∈ gens) (hn : prodL g q ∉ L) (hl : L.length ≠ 4096) : Grow n gens (L ++ [prodL g q]) :=
  ⟨by
    rw [List.nodup_append]
    exact ⟨h.nd, by simp, fun a ha b hb e => by simp at hb; rw [e, hb] at ha; exact hn ha⟩, List.mem_append_left _ h.id, fun x hx => by
    rcases List.mem_append.1 hx with hx | hx
    · exact h.rc x hx
    · simp at hx; subst hx; exact .step hg (h.rc q hq), by have := h.le; simp; omega⟩
theorem Grow.ok {n : Nat} {gens L : List (List Int)} (h : Grow n gens L) (hg : ∀ g ∈ gens, okPerm g n) {q : List Int} (hq : q ∈ L) : okPerm q n := (h.rc q hq).ok hg
theorem bfs_round {gens : List (List Int)} {j : Nat} {L : List (List Int)} {q : List Int} (hj : L[j]? = some q) (hl : j < 4097) : bfs gens (4097 - j) j L = match stepG gens q (some L) with | none => none | some l' => bfs gens (4097 - (j + 1)) (j + 1) l' := by
  rw [show 4097 - j = (4097 - (j + 1)) + 1 by omega, bfs, hj]; rfl
theorem bfs_end {gens : List (List Int)} {j : Nat} {L : List (List Int)} (hj : L[j]? = none) (hl : j < 4097) : bfs gens (4097 - j) j L = some L := by
  rw [show 4097 - j = (4097 - (j + 1)) + 1 by omega, bfs, hj]
def nextB (gens : List (List Int)) (j : Nat) : Option (List (List Int)) → Option (List (List Int))
  | none => none
  | some l' => bfs gens (4097 - (j + 1)) (j + 1) l'
theorem nextB_of {gens : List (List Int)} {j : Nat} {L : List (List Int)} {q : List Int} (hj : L[j]? = some q) (hl : j < 4097) : nextB gens j (stepG gens q (some L)) = bfs gens (4097 - j) j L := by
  rw [bfs_round hj hl]; cases stepG gens q (some L) <;> rfl
theorem Pair.rows {w : World} {base nf cf nt tc : Nat} {L F : List (List Int)} {af ta : Option Addr} (h : Pair w base (.slice ta nt tc) L af nf cf F) (hl : L.length = nt) : Rows w ta nt tc L := by
  obtain ⟨a, c, e, hR, _⟩ := h.todo.rows
  injection e with e1 e2 e3
  subst e1 e3
  rw [hl] at hR
  exact hR
theorem stepG_at {gens : List (List Int)} {k : Nat} {g q : List Int} {st : Option (List (List Int))} (hg : gens[k]? = some g) : stepG (gens.drop k) q st = stepG (gens.drop (k + 1)) q (addG st (prodL g q)) := by
  obtain ⟨h1, e1⟩ := List.getElem?_eq_some_iff.1 hg
  rw [List.drop_eq_getElem_cons h1, e1, stepG_cons]
theorem stepG_last {gens : List (List Int)} {k : Nat} {q : List Int} {st : Option (List (List Int))} (hk : gens.length ≤ k) : stepG (gens.drop k) q st = st := by rw [List.drop_of_length_le hk]; rfl
theorem addG_in {L : List (List Int)} {p : List Int} (h : p ∈ L) : addG (some L) p = some L := by unfold addG; simp [h]
theorem addG_full {L : List (List Int)} {p : List Int} (h : p ∉ L) (hl : L.length = 4096) : addG (some L) p = none := by unfold addG; simp [h, hl]
theorem addG_new {L : List (List Int)} {p : List Int} (h : p ∉ L) (hl : L.length ≠ 4096) : addG (some L) p = some (L ++ [p]) := by unfold addG; simp [h, hl]
theorem keepS {w0 w w' : World} {b o b2 o2 : Nat} {v v2 : Value} (h : w.cell? ⟨b, o, none⟩ = some v ∧ w.cell? ⟨b2, o2, none⟩ = some v2 ∧ Below w0.heap.size w0 w) (hb : Below w.heap.size w w') : w'.cell? ⟨b, o, none⟩ = some v ∧ w'.cell? ⟨b2, o2, none⟩ = some v2 ∧ Below w0.heap.size w0 w' :=
  ⟨(hb.cell (p := ⟨b, o, none⟩) (World.block_lt_of_cell? w _ h.1)).trans h.1, (hb.cell (p := ⟨b2, o2, none⟩) (World.block_lt_of_cell? w _ h.2.1)).trans h.2.1, h.2.2.on hb⟩
theorem rows_box {w : World} {B : Nat} {a : Option Addr} {n c : Nat} {l : List Int} {t : TypeId} (h : Box w B #[.slice a n c] t) (hI : Ints w a n c l) : Rows w (some ⟨B, 0, none⟩) 1 1 [l] :=
  ⟨rfl, Nat.le_refl _, by simp [maxLen], fun _ => ⟨B, 0, rfl, h.lt⟩, fun b o e i hi => by
    obtain ⟨rfl, rfl⟩ : B = b ∧ 0 = o := by simpa using e
    obtain rfl : i = 0 := by omega
    exact ⟨a, n, c, by rw [Nat.zero_add]; exact h.cell 0, hI⟩⟩
theorem all_box {w : World} {P : Nat → Prop} {B : Nat} {a : Option Addr} {n c : Nat} {t : TypeId} (h : Box w B #[.slice a n c] t) (hP : ∀ q, 0 < n → (Value.slice a n c).ownBlock = some q → P q) : RowsAll w P (some ⟨B, 0, none⟩) 1 := by
  intro b o e i ai ni ci hi hc h0 q hq
  obtain ⟨rfl, rfl⟩ : B = b ∧ 0 = o := by simpa using e
  obtain rfl : i = 0 := by omega
  rw [Nat.zero_add, h.cell 0] at hc
  simp at hc
  obtain ⟨rfl, rfl, rfl⟩ := hc
  exact hP q h0 hq
theorem orows_box {w : World} {base : Nat} {P : Nat → Prop} {B : Nat} {a : Option Addr} {n c : Nat} {l : List Int} {t : TypeId} (h : Box w B #[.slice a n c] t) (hb : base ≤ B) (hI : Ints w a n c l) (hP : ∀ q, 0 < n → (Value.slice a n c).ownBlock = some q → P q) : ORows w base P t (.slice (some ⟨B, 0, none⟩) 1 1) [l] :=
  ⟨[.slice a n c], ⟨rfl, .inr ⟨B, 1, _, rfl, hb, h, Nat.le_refl _, by simp [maxLen], rfl, rfl⟩⟩, Olds.one hI hP⟩

set_option maxRecDepth 20000 in
set_option maxHeartbeats 8000000 in
theorem rclosure_any (n : Int) (a0 : Option Addr) (m c : Nat) (gens : List (List Int)) (W : World) (h0 : Rows W a0 m c gens) :
    Calls Try.prog 20 #[.int .i64 n, .slice a0 m c] W (RetRows W (closR n gens) (closE n gens)) := by
  have hl0 := Lib.hid h0.len
  have hV := valid_any n a0 m c gens W h0
  by_cases hv : validE n gens = 0
  · obtain ⟨hn0, hn1, hg1, hok⟩ := validE_zero hv
    obtain ⟨N, rfl⟩ : ∃ N : Nat, n = (N : Int) := ⟨n.toNat, by omega⟩
    simp only [Int.toNat_natCast] at hok
    have HOK := Lib.hid hok
    have hm : m ≤ 1024 := by rw [← hl0.out]; exact hg1
    obtain ⟨R, hR⟩ : ∃ R, bfsL N gens = R := ⟨_, rfl⟩
    have HC : Hid (closR (N : Int) gens = rowsOf R ∧ closE (N : Int) gens = errOf R) := Lib.hid (by
      unfold closR closE; rw [if_neg (by simp [hv]), if_neg (by simp [hv]), Int.toNat_natCast, hR]; exact ⟨rfl, rfl⟩)
    have HR := Lib.hid hR
    rw [hv] at hV
    have hN : N ≤ 1000000 := by omega
    clear hok hR hv hg1
    obtain ⟨i22, hi22, hz220, hz221, hz222⟩ := info_parts info_ints
    go_enter Try.func20, Try.ntmps20
    go_wp2_with fail
    refine hV.mono ?_
    rintro e w1 ⟨rfl, hB1⟩
    clear hV
    go_wp2_with fail
    refine (ident_any N w1 hN).mono ?_
    rintro e w2 ⟨v, rfl, hO2, hB2⟩
    obtain ⟨ia, ic, rfl, hI2⟩ := hO2.ints
    have hil : (idP N).length = N := mkP_len
    rw [hil] at hI2 hO2 ⊢
    go_wp2_with fail
    obtain ⟨w3, hw3⟩ : ∃ w3, w2.alloc (.cells #[.slice ia N ic] 22) = w3 := ⟨_, rfl⟩
    have hB3 : Below w2.heap.size w2 w3 := hw3 ▸ (Below.refl _ _).alloc (Nat.le_refl _) _
    have hbf : Box w3 w2.heap.size #[.slice ia N ic] 22 := hw3 ▸ Box.new _ _ _
    have hz3 : w3.heap.size = w2.heap.size + 1 := by rw [← hw3]; simp
    rw [hw3]
    have HZ3 := Lib.hid hz3
    clear hz3
    refine (ident_any N w3 hN).mono ?_
    rintro e w4 ⟨v, rfl, hO4, hB4⟩
    obtain ⟨ja, jc, rfl, hJ4⟩ := hO4.ints
    rw [hil] at hJ4 hO4 ⊢
    go_wp2_with fail
    obtain ⟨w5, hw5⟩ : ∃ w5, w4.alloc (.cells #[.slice ja N jc] 22) = w5 := ⟨_, rfl⟩
    have hB5 : Below w4.heap.size w4 w5 := hw5 ▸ (Below.refl _ _).alloc (Nat.le_refl _) _
    have hbt : Box w5 w4.heap.size #[.slice ja N jc] 22 := hw5 ▸ Box.new _ _ _
    have hz5 : w5.heap.size = w4.heap.size + 1 := by rw [← hw5]; simp
    rw [hw5]
    have hs1 := hB1.size
    have hs2 := hB2.size
    have hs4 := hB4.size
    have hlt2 := hO2.lt
    have hlt4 := hO4.lt
    have hP0 : Pair w5 W.heap.size (.slice (some ⟨w4.heap.size, 0, none⟩) 1 1) [idP N] (some ⟨w2.heap.size, 0, none⟩) 1 1 (sortP [idP N]) := by
      have e3 := HZ3.out
      refine ⟨orows_box hbt (by omega) (hJ4.below hB5) fun q _ e => ?_, rows_box (hbf.below (hB4.on hB5)) (hI2.below (hB3.on (hB4.on hB5))), all_box (hbf.below (hB4.on hB5)) fun q _ e => ?_, fun _ => ?_⟩
      · have := hlt4 q e
        exact ⟨by omega, by simp [Value.ownBlock]; omega⟩
      · have := hlt2 q e
        exact ⟨by omega, by simp [Value.ownBlock]; omega⟩
      · simp [Value.ownBlock]; omega
    have hBB : Below W.heap.size W w5 := (hB1.on hB2).on (hB3.on (hB4.on hB5))
    have hG0 : Hid (([idP N] : List (List Int)).length = 1 ∧ Grow N gens [idP N] ∧ bfs gens (4097 - 0) 0 [idP N] = R) := Lib.hid ⟨rfl, ⟨by simp, by simp, fun p hp => by simp at hp; subst hp; exact .id, by simp⟩, HR.out⟩
    obtain ⟨fb, hfb⟩ : ∃ fb, some (⟨w2.heap.size, 0, none⟩ : Addr) = fb := ⟨_, rfl⟩
    obtain ⟨tb, htb⟩ : ∃ tb, some (⟨w4.heap.size, 0, none⟩ : Addr) = tb := ⟨_, rfl⟩
    rw [hfb, htb] at hP0
    rw [hfb, htb]
    clear hO2 hO4 hI2 hJ4 hbf hbt hlt2 hlt4 hs1 hs2 hs4 hz5 HZ3 hw3 hw5 hfb htb hB1 hB2 hB3 hB4 hB5 hil
    go_wp2_with fail
    go_loopw [7, 8, 9] (fun f t i wr => ∃ (j : Nat) (L : List (List Int)) (af : Option Addr) (nf cf : Nat) (ta : Option Addr) (nt tc : Nat), i = .int .i64 j ∧ f = .slice af nf cf ∧ t = .slice ta nt tc ∧ nt ≤ 4096 ∧ j ≤ nt ∧ Hid (L.length = nt ∧ Grow N gens L ∧ bfs gens (4097 - j) j L = R) ∧ Pair wr W.heap.size (.slice ta nt tc) L af nf cf (sortP L) ∧ Below W.heap.size W wr) (fun _ _ i _ => 4097 - (intOf i).toNat)
    case atStart => exact ⟨0, _, _, _, _, _, _, _, rfl, rfl, rfl, by omega, by omega, hG0, hP0, hBB⟩
    case round =>
      clear hG0 hP0 hBB
      obtain ⟨j, L, af, nf, cf, ta, nt, tc, rfl, rfl, rfl, hnt, hj, HG, hP, hB⟩ := hrel
      by_cases hlt : j < nt
      · have s0 : (0 : Int) ≤ (j : Int) := by omega
        have s1 : (j : Int) < (nt : Int) := by omega
        obtain ⟨q, hq⟩ : ∃ q, L[j]? = some q := ⟨_, List.getElem?_eq_getElem (by rw [HG.out.1]; exact hlt)⟩
        have HRR : Hid (L.length = nt ∧ Grow N gens L ∧ L[j]? = some q ∧ nextB gens j (stepG (gens.drop 0) q (some L)) = R) := Lib.hid ⟨HG.out.1, HG.out.2.1, hq, by rw [List.drop_zero, nextB_of hq (by omega)]; exact HG.out.2.2⟩
        have HQO : Hid (okPerm q N) := Lib.hid (HG.out.2.1.ok HOK.out (List.mem_of_getElem? hq))
        clear hq HG
        go_wp2_with fail
        obtain ⟨wo, rfl⟩ : ∃ wo, wo = wr := ⟨_, rfl⟩
        go_loopw [7, 8, 10] (fun f t i wz => ∃ (k : Nat) (L2 : List (List Int)) (af : Option Addr) (nf cf : Nat) (ta : Option Addr) (nt tc : Nat), i = .int .i64 k ∧ f = .slice af nf cf ∧ t = .slice ta nt tc ∧ nt ≤ 4096 ∧ j < nt ∧ k ≤ m ∧ Hid (L2.length = nt ∧ Grow N gens L2 ∧ L2[j]? = some q ∧ nextB gens j (stepG (gens.drop k) q (some L2)) = R) ∧ Pair wz W.heap.size (.slice ta nt tc) L2 af nf cf (sortP L2) ∧ Below W.heap.size W wz) (fun _ _ i _ => m - (intOf i).toNat)
        case atStart => exact ⟨0, L, af, nf, cf, ta, nt, tc, rfl, rfl, rfl, hnt, hlt, by omega, HRR, hP, hB⟩
        case round =>
          clear hP hB HRR hnt hj hlt s0 s1
          obtain ⟨k, L, af, nf, cf, ta, nt, tc, rfl, rfl, rfl, hnt, hj, hk, HG, hP, hB⟩ := hrel
          by_cases hltk : k < m
          · obtain ⟨g, hg⟩ := h0.has hltk
            obtain ⟨gb, go, rfl, hgb⟩ := h0.at' (by omega)
            obtain ⟨ga, gn, gc, eg, hIg⟩ := (h0.below hB).get hg
            have hRt := hP.rows HG.out.1
            obtain ⟨tb, to, rfl, htb⟩ := hRt.at' (by omega)
            obtain ⟨qa, qn, qc, et, hIq⟩ := hRt.get HG.out.2.2.1
            have HGO : Hid (okPerm g N) := Lib.hid (HOK.out g (List.mem_of_getElem? hg))
            have hgn : gn = N := by rw [← hIg.len, HGO.out.len]
            have hqn : qn = N := by rw [← hIq.len, HQO.out.len]
            obtain rfl : N = gn := hgn.symm
            obtain rfl : N = qn := hqn.symm
            clear hgn hqn
            have HST := Lib.hid (stepG_at (st := some L) (q := q) hg)
            have HGM := Lib.hid (List.mem_of_getElem? hg)
            have s0 : (0 : Int) ≤ (k : Int) := by omega
            have s1 : (k : Int) < (m : Int) := by omega
            have s2 : (0 : Int) ≤ (j : Int) := by omega
            have s3 : (j : Int) < (nt : Int) := by omega
            have HPR := Lib.hid (fun (V : World) (hV : Below wr.heap.size wr V) => product_any ga qa N gc N qc g q V (hIg.below hV) (hIq.below hV) HQO.out.rng hN)
            clear hg hRt hIg hIq
            go_wp2_with fail
            go_region_held3 (fun w' => w'.cell? ⟨gb, go + k, none⟩ = some (.slice ga N gc) ∧ w'.cell? ⟨tb, to + j, none⟩ = some (.slice qa N qc) ∧ Below wr.heap.size wr w')
              (first | exact ⟨eg, et, (Below.refl _ _).drew⟩ | exact keepS (by assumption) (by assumption))
              (first | (go_at_call 28; refine (HPR.out _ (by go_split_ands; assumption)).mono ?_; rintro e w' ⟨v, rfl, hOp, hb⟩))
            have hbw : Below wr.heap.size wr w' := (Below.refl _ _).drew.on hb
            have hPO : Hid (okPerm (prodL g q) N) := Lib.hid (prod_ok HGO.out HQO.out)
            have hIN : Hid (nextB gens j (stepG (gens.drop (k + 1)) q (addG (some L) (prodL g q))) = R) := Lib.hid (by rw [← HST.out]; exact HG.out.2.2.2)
            have hNEW : Hid (prodL g q ∉ L → L.length ≠ 4096 → Grow N gens (L ++ [prodL g q])) := Lib.hid (fun h1 h2 => HG.out.2.1.add (List.mem_of_getElem? HG.out.2.2.1) HGM.out h1 h2)
            obtain ⟨p, hp⟩ : ∃ p, prodL g q = p := ⟨_, rfl⟩
            rw [hp] at hOp hPO hIN hNEW
            obtain ⟨pa, pc, rfl, hIp⟩ := hOp.ints
            rw [hPO.out.len] at hIp ⊢
            have hpl := hOp.lt
            rw [hPO.out.len] at hpl
            have htl := hP.todo.lt
            have hP' := hP.below hbw
            have hpq : Hid (∀ r, 0 < N → (Value.slice pa N pc).ownBlock = some r → PT w' (.slice (some ⟨tb, to, none⟩) nt tc) r) := Lib.hid (fun r _ e => by
              have h1 := hpl r e
              refine ⟨h1.2, fun e2 => ?_⟩
              have h2 := htl r e2
              have h3 : wr.drew.heap.size = wr.heap.size := rfl
              omega)
            replace hB := hB.on hbw
            have hnf : nf = nt := by rw [← hP'.found.len, sortP_len, HG.out.1]
            obtain rfl : nt = nf := hnf.symm
            clear hnf hp hOp hpl htl hb hP eg et HST HPR
            have hFC := find_any af pa nt cf N pc (sortP L) p w' hP'.found hIp (by omega) (sortP_inc HG.out.2.1.nd)
            have hmm := mem_sortP (x := p) L
            cases hbm : decide (p ∈ sortP L)
            · have HNI : Hid (p ∉ L) := Lib.hid (fun h => of_decide_eq_false hbm (hmm.2 h))
              unfold RetFind at hFC
              rw [hbm] at hFC
              clear hbm hmm
              by_cases h4 : nt = 4096
              · have h4' : ((nt : Int) == 4096) = true := by simp [h4]
                have HRN : Hid (R = none) := Lib.hid (by rw [← hIN.out, addG_full HNI.out (by rw [HG.out.1]; exact h4), stepG_none]; rfl)
                clear h4
                go_wp2_with fail
                refine hFC.mono ?_
                rintro e w2 ⟨kk, q2, rfl, hkk, hcut, rfl⟩
                clear hFC
                go_wp2_with fail
                (refine bodyPost_ret (v := .tuple #[.slice none 0 0, .int .i64 2]) (by simp [results, Try.results20, go_sem]) rfl ?_)
                exact ⟨none, 0, 0, by rw [HC.out.2, HRN.out]; rfl, by rw [HC.out.1, HRN.out]; exact Rows.nil _, hB.on (Below.drewN0 _ _)⟩
              · have h4' : ((nt : Int) == 4096) = false := by simp; omega
                go_wp2_with fail
                refine hFC.mono ?_
                rintro e w2 ⟨kk, q2, rfl, hkk, hcut, rfl⟩
                clear hFC
                have hIS : Hid (sortP (L ++ [p]) = (sortP L).take kk ++ p :: (sortP L).drop kk) := Lib.hid (by
                  rw [sortP_snoc]
                  exact insP_at (sortP L) kk hcut.below hkk (fun a ha => hcut.above kk a (Nat.le_refl _) ha))
                rw [sortP_len, HG.out.1] at hkk
                have hP2 := hP'.below (Below.drewN0 w' q2)
                have hI2 := hIp.drewN q2
                have hpq2 : ∀ r, 0 < N → (Value.slice pa N pc).ownBlock = some r → PT (w'.drewN q2) (.slice (some ⟨tb, to, none⟩) nt tc) r := fun r h0 e => (hpq.out r h0 e).on (Nat.le_refl _)
                replace hB := hB.on (Below.drewN0 w' q2)
                obtain ⟨w2, hw2⟩ : ∃ w2, w'.drewN q2 = w2 := ⟨_, rfl⟩
                rw [hw2] at hP2 hI2 hpq2 hB ⊢
                have HPQ := Lib.hid hpq2
                clear hcut hP' hIp hpq hw2 hpq2
                go_wp2_with fail
                refine (insert_any af pa nt cf N pc kk (sortP L) p w2 _ hP2.found hP2.all hI2 HPQ.out (by omega) (by omega)).mono ?_
                rintro e w3 ⟨v, rfl, hF3, hB3⟩
                rw [← hIS.out] at hF3
                have hP3 := hP2.below hB3
                have hI3 := hI2.below hB3
                have hfl := hF3.lt
                have htl := hP2.todo.lt
                obtain ⟨fa, fc, rfl, hFR, hFA⟩ := hF3.rows
                have hfl2 : (sortP (L ++ [p])).length = nt + 1 := by rw [sortP_len, List.length_append, HG.out.1]; rfl
                rw [hfl2] at hFR hFA hfl ⊢
                replace hB := hB.on hB3
                have hs3 := hB3.size
                obtain ⟨us, hus, hold⟩ := hP3.todo
                rw [HG.out.1] at hus
                have hul := hus.lt
                have hbs := hB.size
                have HOLD := Lib.hid hold
                clear hold hF3
                go_wp2_with (at_builtin; refine wpList_append_own2 _ rfl _ _ 31 rfl W.heap.size 22 i22 (.slice none 0 0) 1 24 Try.underlying31 hi22 hz220 hz221 hz222 rfl (by decide) _ _ _ (hus.alloc _) rfl ⟨_, 0, none⟩ 1 1 [.slice pa N pc] rfl rfl (cell_one_new _ _ _) (by simp [Value.oneCell']) (by unfold maxLen; omega) (by omega) (by first | omega | (simp; omega)) ?_; intro v' w4 hown' hgrow hfr; obtain ⟨va, vc, rfl, _, _⟩ := own_slice hown')
                go_roundw
                case rel =>
                  have hal : Below w3.heap.size w3 (w3.alloc (.cells #[.slice pa N pc] 22)) := (Below.refl _ _).alloc (Nat.le_refl _) _
                  have hPT : ∀ r, PT w2 (.slice (some ⟨tb, to, none⟩) nt tc) r → PT (w3.alloc (.cells #[.slice pa N pc] 22)) (.slice (some ⟨tb, to, none⟩) nt tc) r := fun r h => h.on (by have := hal.size; omega)
                  refine ⟨k + 1, L ++ [p], fa, nt + 1, fc, va, nt + 1, vc, by go_num, rfl, rfl, by omega, by omega, by omega, Lib.hid ⟨by rw [List.length_append, HG.out.1]; rfl, hNEW.out HNI.out (by rw [HG.out.1]; exact h4), ?_, ?_⟩, ?_, (hB.on hal).grown hgrow (by have := hal.size; omega) (fun r e => (hul r e).1)⟩
                  · rw [List.getElem?_append_left (by rw [HG.out.1]; exact hj)]; exact HG.out.2.2.1
                  · rw [← addG_new HNI.out (by rw [HG.out.1]; exact h4)]; exact hIN.out
                  · refine Pair.step ((HOLD.out.imp fun r h => PT.on hal.size h).below hal) (hI3.below hal) (fun r h0 e => hPT r (HPQ.out r h0 e)) (hFR.below hal) ((hFA.below hFR hal).imp hPT) (fun _ e => ?_) (by rw [HG.out.1]; exact hown') hgrow hfr
                    obtain ⟨fb2, fo2, rfl, _⟩ := hFR.at' (by omega)
                    have h1 := (hfl fb2 rfl).1
                    have h2 := (htl fb2 e.symm).2
                    omega
                case measure => simp [intOf]; omega
            · have HIN : Hid (p ∈ L) := Lib.hid (hmm.1 (of_decide_eq_true hbm))
              unfold RetFind at hFC
              rw [hbm] at hFC
              clear hbm hmm
              go_wp2_with fail
              refine hFC.mono ?_
              rintro e w2 ⟨kk, q2, rfl, hkk, hcut, rfl⟩
              clear hFC
              go_wp2_with fail
              go_roundw
              case rel => exact ⟨k + 1, L, af, nt, cf, _, nt, tc, by go_num, rfl, rfl, hnt, hj, by omega, Lib.hid ⟨HG.out.1, HG.out.2.1, HG.out.2.2.1, by rw [← addG_in HIN.out]; exact hIN.out⟩, hP'.below (Below.drewN0 _ _), hB.on (Below.drewN0 _ _)⟩
              case measure => simp [intOf]; omega
          · obtain rfl : m = k := by omega
            have HE : Hid (L.length = nt ∧ Grow N gens L ∧ bfs gens (4097 - (j + 1)) (j + 1) L = R) := Lib.hid ⟨HG.out.1, HG.out.2.1, by
              have := HG.out.2.2.2
              rw [stepG_last (by rw [hl0.out]; omega)] at this
              exact this⟩
            go_wp2_with fail
            go_roundw
            case rel => exact ⟨j + 1, L, af, nf, cf, ta, nt, tc, by go_num, rfl, rfl, hnt, by omega, HE, hP, hB⟩
            case measure => simp [intOf]; omega
      · obtain rfl : nt = j := by omega
        have HE : Hid (R = some L) := Lib.hid (by rw [← HG.out.2.2, bfs_end (List.getElem?_eq_none (by rw [HG.out.1]; omega)) (by omega)])
        go_wp2_with fail
        (refine bodyPost_ret (v := .tuple #[.slice af nf cf, .int .i64 0]) (by simp [results, Try.results20, go_sem]) rfl ?_)
        exact ⟨af, nf, cf, by rw [HC.out.2, HE.out]; rfl, by rw [HC.out.1, HE.out]; exact hP.found, hB⟩
  · have hne : (validE n gens != 0) = true := by simp [hv]
    have HC : Hid (closR n gens = [] ∧ closE n gens = validE n gens) := Lib.hid (by unfold closR closE; rw [if_pos hv, if_pos hv]; exact ⟨rfl, rfl⟩)
    obtain ⟨ve, hve⟩ : ∃ ve, validE n gens = ve := ⟨_, rfl⟩
    rw [hve] at hV hne HC
    clear hv hve
    go_enter Try.func20, Try.ntmps20
    go_wp2_with fail
    refine hV.mono ?_
    rintro e w1 ⟨rfl, hB1⟩
    clear hV
    go_wp2_with fail
    (refine bodyPost_ret (v := .tuple #[.slice none 0 0, .int .i64 ve]) (by simp [results, Try.results20, go_sem]) rfl ?_)
    exact ⟨none, 0, 0, by rw [HC.out.2], by rw [HC.out.1]; exact Rows.nil _, hB1⟩
end Go.Proofs.Ytkekkbbdhdamjaa
