/- The chapter's examples: law14.sane answers true. -/
import Derived.Test.YtjiacdihfbbfjaaLitM
import Derived.WalkKit
import Derived.WalkSpells
import Derived.WalkLawsBesides
import Derived.Deep.LoopGhost
import Derived.Deep.QuietTactic
import Derived.BigQuiet
import Derived.StillTailTactics
import Derived.Lib.Hide
import Derived.Outline
import Derived.Lib.QuietBelow
namespace Go.Proofs.Ytjiacdihfbbfjaa
open Go.RowKit

theorem two_rows (w : World) (l l' : List Int) {n n' : Nat} (hn : l.length = n) (hn' : l'.length = n') (h : l.length ≤ 1000) (h' : l'.length ≤ 1000) :
    Rows (((w.alloc (.cells (l.map (Value.int .i64)).toArray 3)).alloc (.cells (l'.map (Value.int .i64)).toArray 3)).alloc (.cells #[.slice (some ⟨w.heap.size, 0, none⟩) n n, .slice (some ⟨w.heap.size + 1, 0, none⟩) n' n'] 22)) (some ⟨w.heap.size + 1 + 1, 0, none⟩) 2 2 [l, l'] := by
  subst hn hn'
  have b1 := ints_lit l (Box.new w _ 3) rfl (by omega)
  have b2 := ints_lit l' (Box.new (w.alloc (.cells (l.map (Value.int .i64)).toArray 3)) _ 3) rfl (by omega)
  have b3 := Box.new ((w.alloc (.cells (l.map (Value.int .i64)).toArray 3)).alloc (.cells (l'.map (Value.int .i64)).toArray 3)) #[.slice (some ⟨w.heap.size, 0, none⟩) l.length l.length, .slice (some ⟨w.heap.size + 1, 0, none⟩) l'.length l'.length] 22
  simp only [World.size_alloc] at b2 b3
  exact rows2 b3 ((b1.below ((Below.refl _ _).alloc (Nat.le_refl _) _)).below ((Below.refl _ _).alloc (Nat.le_refl _) _)) (b2.below ((Below.refl _ _).alloc (Nat.le_refl _) _))
theorem two_rows_below (w : World) (c1 c2 c3 : Array Value) : Below w.heap.size w (((w.alloc (.cells c1 3)).alloc (.cells c2 3)).alloc (.cells c3 22)) := (((Below.refl _ _).alloc (Nat.le_refl _) _).alloc (by simp) _).alloc (by simp; omega) _
theorem one_row (w : World) (l : List Int) {n : Nat} (hn : l.length = n) (h : l.length ≤ 1000) :
    Rows ((w.alloc (.cells (l.map (Value.int .i64)).toArray 3)).alloc (.cells #[.slice (some ⟨w.heap.size, 0, none⟩) n n] 22)) (some ⟨w.heap.size + 1, 0, none⟩) 1 1 [l] := by
  subst hn
  have b1 := ints_lit l (Box.new w _ 3) rfl (by omega)
  have b3 := Box.new (w.alloc (.cells (l.map (Value.int .i64)).toArray 3)) #[.slice (some ⟨w.heap.size, 0, none⟩) l.length l.length] 22
  simp only [World.size_alloc] at b3
  exact rows1 b3 (b1.below ((Below.refl _ _).alloc (Nat.le_refl _) _))
theorem one_row_below (w : World) (c1 c3 : Array Value) : Below w.heap.size w ((w.alloc (.cells c1 3)).alloc (.cells c3 22)) := ((Below.refl _ _).alloc (Nat.le_refl _) _).alloc (by simp) _
theorem same_lit {W : World} {a a' : Option Addr} {n c n' c' : Nat} {x y : List (List Int)} (h : Rows W a n c x) (h' : Rows W a' n' c' y) (e : x = y) : Calls Try.prog 24 #[.slice a n c, .slice a' n' c'] W fun e w' => e = .returned (.bool true) ∧ ∃ k, w' = W.drewN k := by
  have := same14_any a a' n c n' c' x y W h h'
  subst e
  simpa [eqLL] using this
set_option maxRecDepth 40000 in
set_option maxHeartbeats 8000000 in
theorem sane_any (W : World) : Calls Try.prog 20 #[] W fun e w' => e = .returned (.bool true) ∧ Below W.heap.size W w' := by
  have hB0 := Below.refl W.heap.size W
  go_enter Try.func20, Try.ntmps20
  go_wp2_with fail
  refine (grid_any 1 1 1 none 0 0 [] _ (Ints.nil _)).mono ?_
  rintro e w1 ⟨v1, rfl, hg, hB1⟩
  replace hB0 := hB0.on hB1
  go_wp2_with fail
  refine (moves_lit hg.v (let h := gridL_few 1 1 1 []; ⟨h.1, by omega⟩) ex1.1 ex1.2).mono ?_
  rintro e w2 ⟨va, rfl, hOa, hB2⟩
  replace hB0 := hB0.on hB2
  obtain ⟨aa, ca, rfl, hRa⟩ := hOa.rows
  clear hg hOa hB1 hB2
  go_wp2_with fail
  -- b
  have hi2 := ints_lit [3] (Box.new w2 #[.int .i64 3] 3) rfl (by decide)
  have ha2 : Below w2.heap.size w2 (w2.alloc (.cells #[.int .i64 3] 3)) := (Below.refl _ _).alloc (Nat.le_refl _) _
  refine (grid_any 1 2 2 _ _ _ [3] _ hi2).mono ?_
  rintro e w3 ⟨v3, rfl, hg, hB3⟩
  replace hB0 := (hB0.on ha2).on hB3
  replace hRa := (hRa.below ha2).below hB3
  go_wp2_with fail
  refine (moves_lit hg.v (let h := gridL_few 1 2 2 [3]; ⟨h.1, by omega⟩) ex2.1 ex2.2).mono ?_
  rintro e w4 ⟨vb, rfl, hOb, hB4⟩
  replace hB0 := hB0.on hB4
  replace hRa := hRa.below hB4
  obtain ⟨ab, cb, rfl, hRb⟩ := hOb.rows
  clear hg hOb hB3 hB4 ha2 hi2
  go_wp2_with fail
  -- c
  have hi4 := ints_lit [0, 6] (Box.new w4 #[.int .i64 0, .int .i64 6] 3) rfl (by decide)
  have ha4 : Below w4.heap.size w4 (w4.alloc (.cells #[.int .i64 0, .int .i64 6] 3)) := (Below.refl _ _).alloc (Nat.le_refl _) _
  refine (grid_any 2 3 3 _ _ _ [0, 6] _ hi4).mono ?_
  rintro e w5 ⟨v5, rfl, hg, hB5⟩
  replace hB0 := (hB0.on ha4).on hB5
  replace hRa := (hRa.below ha4).below hB5
  replace hRb := (hRb.below ha4).below hB5
  go_wp2_with fail
  refine (moves_lit hg.v (let h := gridL_few 2 3 3 [0, 6]; ⟨h.1, by omega⟩) ex3.1 rfl).mono ?_
  rintro e w6 ⟨vc, rfl, hOc, hB6⟩
  replace hB0 := hB0.on hB6
  replace hRa := hRa.below hB6
  replace hRb := hRb.below hB6
  obtain ⟨ac, cc, rfl, hRc⟩ := hOc.rows
  rw [ex3.2]
  clear hg hOc hB5 hB6 ha4 hi4 hRc
  go_wp2_with fail
  -- no
  refine (grid_any 1 2 2 none 0 0 [] _ (Ints.nil _)).mono ?_
  rintro e w7 ⟨v7, rfl, hg, hB7⟩
  replace hB0 := hB0.on hB7
  replace hRa := hRa.below hB7
  replace hRb := hRb.below hB7
  go_wp2_with fail
  have hi7 := ints_lit [1, 2, 3, 0] (Box.new w7 #[.int .i64 1, .int .i64 2, .int .i64 3, .int .i64 0] 3) rfl (by decide)
  have ha7 : Below w7.heap.size w7 (w7.alloc (.cells #[.int .i64 1, .int .i64 2, .int .i64 3, .int .i64 0] 3)) := (Below.refl _ _).alloc (Nat.le_refl _) _
  refine (is_lit (hg.v.below ha7) hi7 (let h := gridL_few 1 2 2 []; ⟨h.1, by omega⟩) ex4.1 ex4.2.1).mono ?_
  rintro e w8 ⟨rfl, hB8⟩
  replace hB0 := (hB0.on ha7).on hB8
  replace hRa := (hRa.below ha7).below hB8
  replace hRb := (hRb.below ha7).below hB8
  clear hg hB7 hB8 ha7 hi7
  go_wp2_with fail
  -- yes
  refine (grid_any 1 2 2 none 0 0 [] _ (Ints.nil _)).mono ?_
  rintro e w9 ⟨v9, rfl, hg, hB9⟩
  replace hB0 := hB0.on hB9
  replace hRa := hRa.below hB9
  replace hRb := hRb.below hB9
  go_wp2_with fail
  have hi9 := ints_lit [1, 3, 0, 2] (Box.new w9 #[.int .i64 1, .int .i64 3, .int .i64 0, .int .i64 2] 3) rfl (by decide)
  have ha9 : Below w9.heap.size w9 (w9.alloc (.cells #[.int .i64 1, .int .i64 3, .int .i64 0, .int .i64 2] 3)) := (Below.refl _ _).alloc (Nat.le_refl _) _
  refine (is_lit (hg.v.below ha9) hi9 (let h := gridL_few 1 2 2 []; ⟨h.1, by omega⟩) ex4.1 ex4.2.2).mono ?_
  rintro e w10 ⟨rfl, hB10⟩
  replace hB0 := (hB0.on ha9).on hB10
  replace hRa := (hRa.below ha9).below hB10
  replace hRb := (hRb.below ha9).below hB10
  clear hg hB9 hB10 ha9 hi9
  go_wp2_with fail
  -- d
  have hr10 := two_rows w10 [0, 1] [1, 2] rfl rfl (by decide) (by decide)
  have ha10 := two_rows_below w10 #[.int .i64 0, .int .i64 1] #[.int .i64 1, .int .i64 2] #[.slice (some ⟨w10.heap.size, 0, none⟩) 2 2, .slice (some ⟨w10.heap.size + 1, 0, none⟩) 2 2]
  refine (swaps_lit hr10 (by omega) ex5.1 ex5.2).mono ?_
  rintro e w11 ⟨vd, rfl, hOd, hB11⟩
  replace hB0 := (hB0.on ha10).on hB11
  replace hRa := (hRa.below ha10).below hB11
  replace hRb := (hRb.below ha10).below hB11
  obtain ⟨ad, cd, rfl, hRd⟩ := hOd.rows
  clear hr10 ha10 hOd hB11 hRd
  go_wp2_with fail
  -- s
  have hr11 := two_rows w11 [0, 1] [3, 2] rfl rfl (by decide) (by decide)
  have ha11 := two_rows_below w11 #[.int .i64 0, .int .i64 1] #[.int .i64 3, .int .i64 2] #[.slice (some ⟨w11.heap.size, 0, none⟩) 2 2, .slice (some ⟨w11.heap.size + 1, 0, none⟩) 2 2]
  refine (swaps_lit hr11 (by omega) ex6.1 ex6.2).mono ?_
  rintro e w12 ⟨vs, rfl, hOs, hB12⟩
  replace hB0 := (hB0.on ha11).on hB12
  replace hRa := (hRa.below ha11).below hB12
  replace hRb := (hRb.below ha11).below hB12
  obtain ⟨as', cs, rfl, hRs⟩ := hOs.rows
  clear hr11 ha11 hOs hB12
  go_wp2_with fail
  -- m
  refine (swaps_lit (Rows.nil _) (by omega) ex7.1 ex7.2).mono ?_
  rintro e w13 ⟨vm, rfl, hOm, hB13⟩
  replace hB0 := hB0.on hB13
  replace hRa := hRa.below hB13
  replace hRb := hRb.below hB13
  replace hRs := hRs.below hB13
  clear hOm hB13
  go_wp2_with fail
  -- n
  refine (moves_lit (zeroGrid_F _ 0).v ⟨by decide, by decide⟩ ex8.1 ex8.2).mono ?_
  rintro e w14 ⟨vn, rfl, hOn, hB14⟩
  replace hB0 := hB0.on hB14
  replace hRa := hRa.below hB14
  replace hRb := hRb.below hB14
  replace hRs := hRs.below hB14
  clear hOn hB14
  go_wp2_with fail
  have hr14 := one_row w14 [0] rfl (by decide)
  have ha14 := one_row_below w14 #[.int .i64 0] #[.slice (some ⟨w14.heap.size, 0, none⟩) 1 1]
  refine (same_lit (hRa.below ha14) hr14 rfl).mono ?_
  rintro e w15 ⟨rfl, q, rfl⟩
  replace hB0 := below_drewN (hB0.on ha14) q
  replace hRb := (hRb.below ha14).drewN q
  replace hRs := (hRs.below ha14).drewN q
  clear hr14 ha14
  go_wp2_with fail
  obtain ⟨w16, hw16⟩ : ∃ w16, ((w14.alloc (.cells #[.int .i64 0] 3)).alloc (.cells #[.slice (some ⟨w14.heap.size, 0, none⟩) 1 1] 22)).drewN q = w16 := ⟨_, rfl⟩
  have hs16 : w16.heap.size = w14.heap.size + 1 + 1 := by rw [← hw16]; simp
  rw [hw16] at hB0 hRb hRs ⊢
  clear hw16
  have hr16 := two_rows w16 [0, 1, 2] [0, 2, 1] rfl rfl (by decide) (by decide)
  have ha16 := two_rows_below w16 #[.int .i64 0, .int .i64 1, .int .i64 2] #[.int .i64 0, .int .i64 2, .int .i64 1] #[.slice (some ⟨w16.heap.size, 0, none⟩) 3 3, .slice (some ⟨w16.heap.size + 1, 0, none⟩) 3 3]
  rw [hs16] at hr16 ha16
  refine (same_lit (hRb.below (by rw [hs16]; exact ha16)) hr16 rfl).mono ?_
  rintro e w17 ⟨rfl, q2, rfl⟩
  replace hB0 := below_drewN (hB0.on (by rw [hs16]; exact ha16)) q2
  replace hRs := (hRs.below (by rw [hs16]; exact ha16)).drewN q2
  clear hr16 ha16
  go_wp2_with fail
  obtain ⟨w18, hw18⟩ : ∃ w18, (((w16.alloc (.cells #[.int .i64 0, .int .i64 1, .int .i64 2] 3)).alloc (.cells #[.int .i64 0, .int .i64 2, .int .i64 1] 3)).alloc (.cells #[.slice (some ⟨w14.heap.size + 1 + 1, 0, none⟩) 3 3, .slice (some ⟨w14.heap.size + 1 + 1 + 1, 0, none⟩) 3 3] 22)).drewN q2 = w18 := ⟨_, rfl⟩
  have hs18 : w18.heap.size = w14.heap.size + 1 + 1 + 1 + 1 + 1 := by rw [← hw18]; simp [hs16]
  rw [hw18] at hB0 hRs ⊢
  clear hw18
  have hr18 := one_row w18 [3, 2, 1, 0] rfl (by decide)
  have ha18 := one_row_below w18 #[.int .i64 3, .int .i64 2, .int .i64 1, .int .i64 0] #[.slice (some ⟨w18.heap.size, 0, none⟩) 4 4]
  rw [hs18] at hr18 ha18
  refine (same_lit (hRs.below (by rw [hs18]; exact ha18)) hr18 rfl).mono ?_
  rintro e w19 ⟨rfl, q3, rfl⟩
  replace hB0 := below_drewN (hB0.on (by rw [hs18]; exact ha18)) q3
  clear hr18 ha18
  go_wp2_with fail
  go_ret
  exact ⟨rfl, hB0⟩
end Go.Proofs.Ytjiacdihfbbfjaa
