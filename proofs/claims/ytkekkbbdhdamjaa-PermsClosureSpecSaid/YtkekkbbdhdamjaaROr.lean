/- Contract of ref.Orbits. -/
import Derived.Test.YtkekkbbdhdamjaaROrM
import Derived.Deep.LoopGhost
import Derived.BigRegion
import Derived.WalkKit
import Derived.WalkSpells
import Derived.WalkLawsBesides
import Derived.Deep.LoopGhost
import Derived.Deep.QuietTactic
import Derived.BigQuiet
import Derived.StillTailTactics
import Derived.Lib.Hide
import Derived.Outline
import Derived.Lib.QuietBelow
namespace Go.Proofs.Ytkekkbbdhdamjaa
open Go.RowKit

theorem ot_step {w w' : World} {base : Nat} {vt vt' : Value} {us : List Value} {L : List (List Int)} {ap : Option Addr} {np cp : Nat} {p : List Int} (hold : Olds w (PT w vt) us L) (hp : Ints w ap np cp p) (hpq : ∀ q, 0 < np → (Value.slice ap np cp).ownBlock = some q → PT w vt q)
    (hown : w'.ownsRow base 22 1 vt' (L.length + 1) (us ++ [.slice ap np cp])) (hg : w.grownBy w' vt.ownBlock) (hfr : vt'.ownBlock = vt.ownBlock ∨ vt'.ownBlock = some w.heap.size) : ORows w' base (PT w' vt') 22 vt' (L ++ [p]) := by
  have hPT : ∀ q, PT w vt q → PT w' vt' q := by
    intro q hq
    refine ⟨Nat.lt_of_lt_of_le hq.1 hg.size, ?_⟩
    rcases hfr with e | e
    · rw [e]; exact hq.2
    · rw [e]; intro e2; injection e2 with e2; have := hq.1; omega
  have hr : ∀ q, vt.ownBlock = some q → ¬ PT w vt q := fun q e h => h.2 e
  exact ⟨us ++ [.slice ap np cp], by rw [List.length_append]; exact hown, ((hold.append (Olds.one hp hpq)).grown hg hr).imp hPT⟩
theorem ot_below {w w' : World} {base : Nat} {vt : Value} {L : List (List Int)} (h : ORows w base (PT w vt) 22 vt L) (hb : Below w.heap.size w w') : ORows w' base (PT w' vt) 22 vt L := (h.below hb).imp fun _ => PT.on hb.size

set_option maxRecDepth 20000 in
set_option maxHeartbeats 8000000 in
theorem rorbits_any (n : Int) (a0 : Option Addr) (m c : Nat) (gens : List (List Int)) (W : World) (h0 : Rows W a0 m c gens) :
    Calls Try.prog 22 #[.int .i64 n, .slice a0 m c] W (RetRows W (orbR n gens) (validE n gens)) := by
  have hl0 := Lib.hid h0.len
  have hV := valid_any n a0 m c gens W h0
  by_cases hv : validE n gens = 0
  · obtain ⟨hn0, hn1, hg1, hok⟩ := validE_zero hv
    obtain ⟨N, rfl⟩ : ∃ N : Nat, n = (N : Int) := ⟨n.toNat, by omega⟩
    simp only [Int.toNat_natCast] at hok
    have HOK := Lib.hid hok
    have hm : m ≤ 1024 := by rw [← hl0.out]; exact hg1
    have HC : Hid (orbR (N : Int) gens = orbsTo N gens N ∧ validE (N : Int) gens = 0) := Lib.hid (by
      unfold orbR; rw [if_neg (by simp [hv]), Int.toNat_natCast]; exact ⟨rfl, hv⟩)
    rw [hv] at hV
    have hN : N ≤ 256 := by omega
    clear hok hv hg1
    obtain ⟨i3, hi3, hz30, hz31, hz32⟩ := info_parts info_int
    obtain ⟨i22, hi22, hz220, hz221, hz222⟩ := info_parts info_ints
    go_enter Try.func22, Try.ntmps22
    go_wp2_with fail
    refine hV.mono ?_
    rintro e w1 ⟨rfl, hB1⟩
    clear hV
    go_wp2_with fail
    refine (ident_any N w1 (by omega)).mono ?_
    rintro e w2 ⟨v, rfl, hO2, hB2⟩
    obtain ⟨la, lc, rfl, _⟩ := hO2.ints
    rw [show (idP N).length = N from mkP_len] at hO2 ⊢
    have hWb : W.heap.size ≤ w1.heap.size := hB1.size
    have hBB := hB1.on hB2
    obtain ⟨bs, hbs⟩ : ∃ bs, w1.heap.size = bs := ⟨_, rfl⟩
    rw [hbs] at hO2 hWb
    clear hB2 hB1 hbs
    go_wp2_with fail
    go_loopg [8] (sumL (idP N) + 1) (fun gk c wr => ∃ (l : List Int) (ch : Bool), c = .bool ch ∧ Hid (l.length = N ∧ LInv N gens l ∧ (ch = false → Still N gens l) ∧ gk = if ch then sumL l + 1 else 0) ∧ OwnInts wr bs 3 (.slice la N lc) l ∧ Below W.heap.size W wr)
    case atStart => exact ⟨idP N, true, rfl, Lib.hid ⟨mkP_len, LInv.start N gens, (fun h => by simp at h), by simp⟩, hO2, hBB⟩
    case round =>
      clear hO2 hBB
      obtain ⟨l0, ch, rfl, HG, hO, hB⟩ := hrel
      cases ch
      · have HS : Hid (l0.length = N ∧ LInv N gens l0 ∧ Still N gens l0) := Lib.hid ⟨HG.out.1, HG.out.2.1, HG.out.2.2.1 rfl⟩
        clear HG
        have hIl := own_ints hO HS.out.1
        clear hO
        have hmk := World.ownsRow_made wr (base := wr.heap.size) (e := 22) (size := 1) #[] 0 (Nat.le_refl _) (by simp [maxLen]) rfl
        have hOR0 : ORows (wr.alloc (.cells #[] 22)) wr.heap.size (PT (wr.alloc (.cells #[] 22)) (.slice (some ⟨wr.heap.size, 0, none⟩) 0 0)) 22 (.slice (some ⟨wr.heap.size, 0, none⟩) 0 0) [] := ⟨[], hmk, Olds.nil _ _⟩
        have hal : Below wr.heap.size wr (wr.alloc (.cells #[] 22)) := (Below.refl _ _).alloc (Nat.le_refl _) _
        clear hmk
        have HL0 : Hid (([] : List (List Int)).length = 0 ∧ ([] : List (List Int)) = orbsTo N gens 0) := Lib.hid ⟨rfl, rfl⟩
        go_wp2_with fail
        obtain ⟨wo, hwo⟩ : ∃ wo, wo = wr := ⟨_, rfl⟩
        rw [← hwo] at hOR0 hal hIl hB
        rw [← hwo]
        obtain ⟨oa0, hoa0⟩ : ∃ oa, some (⟨wo.heap.size, 0, none⟩ : Addr) = oa := ⟨_, rfl⟩
        rw [hoa0] at hOR0 ⊢
        clear hwo hoa0
        go_loopw [13, 14] (fun o i wz => ∃ (k : Nat) (L : List (List Int)) (ta : Option Addr) (nt tc : Nat), i = .int .i64 k ∧ o = .slice ta nt tc ∧ k ≤ N ∧ nt ≤ k ∧ Hid (L.length = nt ∧ L = orbsTo N gens k) ∧ ORows wz wo.heap.size (PT wz (.slice ta nt tc)) 22 (.slice ta nt tc) L ∧ Below wo.heap.size wo wz) (fun _ i _ => N - (intOf i).toNat)
        case atStart => exact ⟨0, [], _, _, _, rfl, rfl, by omega, by omega, HL0, hOR0, hal⟩
        case round =>
          clear HL0 hOR0 hal
          obtain ⟨k, L, ta, nt, tc, rfl, rfl, hk, hnt, HL, hOR, hBz⟩ := hrel
          by_cases hlk : k < N
          · have hm0 := OwnInts.made0 wr 3 wr.heap.size (Nat.le_refl _)
            have hal : Below wr.heap.size wr (wr.alloc (.cells #[] 3)) := (Below.refl _ _).alloc (Nat.le_refl _) _
            have HN0 : Hid ((rowP l0 k 0).length = 0) := Lib.hid rfl
            have hm1 : OwnInts (wr.alloc (.cells #[] 3)) wr.heap.size 3 (.slice (some ⟨wr.heap.size, 0, none⟩) 0 0) (rowP l0 k 0) := hm0
            clear hm0
            go_wp2_with fail
            obtain ⟨wz, hwz⟩ : ∃ wz, wz = wr := ⟨_, rfl⟩
            rw [← hwz] at hm1 hal hOR hBz
            rw [← hwz]
            obtain ⟨xa0, hxa0⟩ : ∃ xa, some (⟨wz.heap.size, 0, none⟩ : Addr) = xa := ⟨_, rfl⟩
            rw [hxa0] at hm1 ⊢
            clear hwz hxa0
            go_loopw [15, 16] (fun o i wy => ∃ (p : Nat) (xa : Option Addr) (nx xc : Nat), i = .int .i64 p ∧ o = .slice xa nx xc ∧ p ≤ N ∧ nx ≤ p ∧ Hid ((rowP l0 k p).length = nx) ∧ OwnInts wy wz.heap.size 3 (.slice xa nx xc) (rowP l0 k p) ∧ Below wz.heap.size wz wy) (fun _ i _ => N - (intOf i).toNat)
            case atStart => exact ⟨0, _, _, _, rfl, rfl, by omega, by omega, HN0, hm1, hal⟩
            case round =>
              clear HN0 hm1 hal
              obtain ⟨p, xa, nx, xc, rfl, rfl, hp, hnx, HN, hX, hBy⟩ := hrel
              by_cases hlp : p < N
              · obtain ⟨lb, lo, rfl, hlb⟩ := hIl.at' (by omega)
                obtain ⟨y, hy, _, _⟩ := HS.out.2.1.el p hlp
                have hIy := hIl.below (hBz.on hBy)
                have ey := hIy.get hy
                have HR := Lib.hid (rowP_succ l0 k p)
                have HY := Lib.hid hy
                have s0 : (0 : Int) ≤ (p : Int) := by omega
                have s1 : (p : Int) < (N : Int) := by omega
                clear hIy hy
                by_cases hyk : y = k
                · subst hyk
                  have HT : Hid (rowP l0 y (p + 1) = rowP l0 y p ++ [(p : Int)]) := Lib.hid (by rw [HR.out, if_pos HY.out])
                  obtain ⟨ll, hll⟩ : ∃ ll, rowP l0 y p = ll := ⟨_, rfl⟩
                  rw [hll] at hX HT HN
                  unfold OwnInts at hX
                  rw [HN.out] at hX
                  have hxl := hX.lt
                  have hsz := hBy.size
                  clear HR
                  go_wp2_with (at_builtin; refine wpList_append_own2 _ rfl _ _ 22 rfl wz.heap.size 3 i3 (.int .i64 0) 1 8 Try.underlying22 hi3 hz30 hz31 hz32 rfl (by decide) _ _ _ (hX.alloc _) rfl ⟨_, 0, none⟩ 1 1 [.int .i64 p] rfl rfl (cell_one_new _ _ _) (by simp [Value.oneCell']) (by unfold maxLen; omega) (by omega) (by first | omega | (simp; omega)) ?_; intro v' w1 hown' hgrow hfr)
                  obtain ⟨va, vc, rfl, _, _⟩ := own_slice hown'
                  go_roundw
                  case rel =>
                    refine ⟨p + 1, va, nx + 1, vc, by go_num, rfl, by omega, by omega, Lib.hid (by rw [HT.out, List.length_append, HN.out]; rfl), ?_, (hBy.alloc hsz _).grown hgrow (by simp; omega) (fun q e => (hxl q e).1)⟩
                    rw [HT.out]
                    exact OwnInts.snoc (by rw [HN.out]; exact hown')
                  case measure => simp [intOf]; omega
                · have t1 : ((y : Int) == (k : Int)) = false := by simp; omega
                  have t3 : ¬ (y : Int) = (k : Int) := by omega
                  have HT : Hid (rowP l0 k (p + 1) = rowP l0 k p) := Lib.hid (by rw [HR.out, if_neg (by rw [HY.out]; intro e; injection e with e; omega)]; simp)
                  clear HR
                  go_wp2_with fail
                  go_roundw
                  case rel => exact ⟨p + 1, xa, nx, xc, by go_num, rfl, by omega, by omega, Lib.hid (by rw [HT.out]; exact HN.out), by rw [HT.out]; exact hX, hBy⟩
                  case measure => simp [intOf]; omega
              · obtain rfl : N = p := by omega
                have HRO := Lib.hid (rowP_orb HOK.out HS.out.2.1 HS.out.2.2 hlk)
                have hORy := ot_below hOR hBy
                have htl := hOR.lt
                by_cases hx0 : 0 < nx
                · have HE : Hid (orbsTo N gens (k + 1) = L ++ [rowP l0 k N]) := Lib.hid (by rw [HRO.out, if_pos (by rw [HN.out]; exact hx0), HL.out.2])
                  have t1 : (0 : Int) < (nx : Int) := by omega
                  have hIx := own_ints hX HN.out
                  have hxl := hX.lt
                  obtain ⟨us, hus, hold⟩ := hORy
                  rw [HL.out.1] at hus
                  have hul := hus.lt
                  have HOLD := Lib.hid hold
                  have hsz := hBy.size
                  have hszz := hBz.size
                  clear hold hX HRO hx0
                  go_wp2_with (at_builtin; refine wpList_append_own2 _ rfl _ _ 31 rfl wo.heap.size 22 i22 (.slice none 0 0) 1 24 Try.underlying31 hi22 hz220 hz221 hz222 rfl (by decide) _ _ _ (hus.alloc _) rfl ⟨_, 0, none⟩ 1 1 [.slice xa nx xc] rfl rfl (cell_one_new _ _ _) (by simp [Value.oneCell']) (by unfold maxLen; omega) (by omega) (by first | omega | (simp; omega)) ?_; intro v' w1 hown' hgrow hfr)
                  obtain ⟨va, vc, rfl, _, _⟩ := own_slice hown'
                  go_roundw
                  case rel =>
                    have hal : Below wr.heap.size wr (wr.alloc (.cells #[.slice xa nx xc] 22)) := (Below.refl _ _).alloc (Nat.le_refl _) _
                    refine ⟨k + 1, L ++ [rowP l0 k N], va, nt + 1, vc, by go_num, rfl, by omega, by omega, Lib.hid ⟨by rw [List.length_append, HL.out.1]; rfl, HE.out.symm⟩, ?_, ((hBz.on hBy).on hal).grown hgrow (by have := hal.size; omega) (fun r e => (hul r e).1)⟩
                    refine ot_step ((HOLD.out.imp fun r h => PT.on hal.size h).below hal) (hIx.below hal) (fun r h0 e => ?_) (by rw [HL.out.1]; exact hown') hgrow hfr
                    have h1 := hxl r e
                    refine ⟨by have := hal.size; omega, fun e2 => ?_⟩
                    have h2 := htl r e2
                    omega
                  case measure => simp [intOf]; omega
                · obtain rfl : nx = 0 := by omega
                  have HE : Hid (orbsTo N gens (k + 1) = L) := Lib.hid (by rw [HRO.out, if_neg (by rw [HN.out]; omega), HL.out.2])
                  clear hx0 HRO
                  go_wp2_with fail
                  go_roundw
                  case rel => exact ⟨k + 1, L, ta, nt, tc, by go_num, rfl, by omega, by omega, Lib.hid ⟨HL.out.1, HE.out.symm⟩, hORy, hBz.on hBy⟩
                  case measure => simp [intOf]; omega
          · obtain rfl : N = k := by omega
            obtain ⟨ta', tc', e, hR, _⟩ := hOR.rows
            injection e with e1 e2 e3
            subst e1 e3
            clear e2
            rw [HL.out.1] at hR
            go_wp2_with fail
            (refine bodyPost_ret (v := .tuple #[.slice ta nt tc, .int .i64 0]) (by simp [results, Try.results22, go_sem]) rfl ?_)
            exact ⟨ta, nt, tc, by rw [HC.out.2], by rw [HC.out.1, ← HL.out.2]; exact hR, hB.on hBz⟩
      · have HG' : Hid (gk = sumL l0 + 1) := Lib.hid (by have := HG.out.2.2.2; simpa using this)
        have HP0 : Hid (l0.length = N ∧ LInv N gens l0 ∧ Pass N gens l0 0 0 false l0) := Lib.hid ⟨HG.out.1, HG.out.2.1, Pass.zero⟩
        clear HG
        go_wp2_with fail
        go_loopw [8, 9] (fun c i wr => ∃ (q : Nat) (l : List Int) (ch : Bool), c = .bool ch ∧ i = .int .i64 q ∧ q ≤ m ∧ Hid (l.length = N ∧ LInv N gens l ∧ Pass N gens l0 q 0 ch l) ∧ OwnInts wr bs 3 (.slice la N lc) l ∧ Below W.heap.size W wr) (fun _ i _ => m - (intOf i).toNat)
        case atStart => exact ⟨0, l0, false, rfl, rfl, by omega, HP0, hO, hB⟩
        case round =>
          clear HP0 hO hB
          obtain ⟨q, l, ch, rfl, rfl, hq, HP, hO, hB⟩ := hrel
          by_cases hlq : q < m
          · go_wp2_with fail
            go_loopw [8, 10] (fun c i wr => ∃ (x : Nat) (l : List Int) (ch : Bool), c = .bool ch ∧ i = .int .i64 x ∧ x ≤ N ∧ Hid (l.length = N ∧ LInv N gens l ∧ Pass N gens l0 q x ch l) ∧ OwnInts wr bs 3 (.slice la N lc) l ∧ Below W.heap.size W wr) (fun _ i _ => N - (intOf i).toNat)
            case atStart => exact ⟨0, l, ch, rfl, rfl, by omega, HP, hO, hB⟩
            case round =>
              clear HP hO hB
              obtain ⟨x, l, ch, rfl, rfl, hx, HP, hO, hB⟩ := hrel
              by_cases hlx : x < N
              · obtain ⟨g, hg⟩ := h0.has hlq
                obtain ⟨gb, go, rfl, hgb⟩ := h0.at' (by omega)
                obtain ⟨ga, gn, gc, eg, hIg⟩ := (h0.below hB).get hg
                have HGO : Hid (okPerm g N) := Lib.hid (HOK.out g (List.mem_of_getElem? hg))
                have hgn : gn = N := by rw [← hIg.len, HGO.out.len]
                obtain rfl : N = gn := hgn.symm
                clear hgn
                have HGM : Hid (gens[q]? = some g ∧ g ∈ gens) := Lib.hid ⟨hg, List.mem_of_getElem? hg⟩
                obtain ⟨b, rfl, hbb, hbl, gf⟩ := own_spot hO HP.out.1 (by omega)
                obtain ⟨gab, gao, rfl, hgab⟩ := hIg.at' (by omega)
                have ej := hIg.get (HGO.out.get hlx).1
                have hj : ap g x < N := HGO.out.lt hlx
                obtain ⟨a, ha, hax, _⟩ := HP.out.2.1.el x hlx
                obtain ⟨d, hd, hdx, _⟩ := HP.out.2.1.el (ap g x) hj
                have hIl := own_ints hO HP.out.1
                have ea := hIl.get ha
                have ed := hIl.get hd
                rw [Nat.zero_add] at ea ed
                have HSM : Hid (a = d → Pass N gens l0 q (x + 1) ch l) := Lib.hid (fun e => HP.out.2.2.same HGM.out.1 (by rw [ha, hd, e]))
                have HST : Hid (∀ mm, a ≠ d → ((mm = a ∧ a < d) ∨ (mm = d ∧ d < a)) → LInv N gens ((l.set x (mm : Int)).set (ap g x) (mm : Int)) ∧ sumL ((l.set x (mm : Int)).set (ap g x) (mm : Int)) < sumL l) := Lib.hid (fun mm h1 h2 => HP.out.2.1.stepS HOK.out HGM.out.2 hlx ha hd h1 h2)
                have HXY : Hid (a ≠ d → x ≠ ap g x) := Lib.hid (fun h e => h (by rw [← e, ha] at hd; injection hd with hd; omega))
                have gfx := gf x
                obtain ⟨y, hy⟩ : ∃ y, ap g x = y := ⟨_, rfl⟩
                rw [hy] at HXY
                have gfy := gf y
                rw [hy] at ej hj ed HST hdx
                have s0 : (0 : Int) ≤ (q : Int) := by omega
                have s1 : (q : Int) < (m : Int) := by omega
                have s2 : (0 : Int) ≤ (x : Int) := by omega
                have s3 : (x : Int) < (N : Int) := by omega
                have s4 : (0 : Int) ≤ (y : Int) := by omega
                have s5 : (y : Int) < (N : Int) := by omega
                clear hg hIg hgb hgab ha hd hIl hy gf
                rcases Nat.lt_trichotomy a d with hlt | heq | hlt
                · have x1 : ¬ x = y := HXY.out (by omega)
                  have x2 : ¬ y = x := fun e => x1 e.symm
                  have t0 : ¬ (d : Int) < (a : Int) := by omega
                  have t1 : ((d : Int) == (a : Int)) = false := by simp; omega
                  have t2 : min (a : Int) (d : Int) = (a : Int) := by omega
                  have t3 : ¬ (d : Int) = (a : Int) := by omega
                  go_wp2_with fail
                  go_region
                  have hO1 := ownInts_set hO HP.out.1 hlx (a : Int)
                  have hO2 := ownInts_set hO1 (by rw [List.length_set]; exact HP.out.1) (show y < N by omega) (a : Int)
                  have hB2 : Below W.heap.size W ((wr.setCell ⟨b, x, none⟩ (.int .i64 a)).setCell ⟨b, y, none⟩ (.int .i64 a)) := (hB.setCell (by exact Nat.le_trans hWb hbb) _).setCell (by exact Nat.le_trans hWb hbb) _
                  have HN : Hid (((l.set x (a : Int)).set y (a : Int)).length = N ∧ LInv N gens ((l.set x (a : Int)).set y (a : Int)) ∧ Pass N gens l0 q (x + 1) true ((l.set x (a : Int)).set y (a : Int))) := Lib.hid ⟨by rw [List.length_set, List.length_set]; exact HP.out.1, (HST.out a (by omega) (.inl ⟨rfl, hlt⟩)).1, HP.out.2.2.less (HST.out a (by omega) (.inl ⟨rfl, hlt⟩)).2⟩
                  clear hO hB hO1
                  go_wp2_with fail
                  go_roundw
                  case rel => exact ⟨x + 1, (l.set x (a : Int)).set y (a : Int), true, rfl, by go_num, by omega, HN, hO2.below (Below.refl _ _).drew, hB2.drew⟩
                  case measure => simp [intOf]; omega
                · subst heq
                  have t0 : ¬ (a : Int) < (a : Int) := by omega
                  have t2 : min (a : Int) (a : Int) = (a : Int) := by omega
                  have HN : Hid (l.length = N ∧ LInv N gens l ∧ Pass N gens l0 q (x + 1) ch l) := Lib.hid ⟨HP.out.1, HP.out.2.1, HSM.out rfl⟩
                  go_wp2_with fail
                  go_region
                  go_wp2_with fail
                  go_roundw
                  case rel => exact ⟨x + 1, l, ch, rfl, by go_num, by omega, HN, hO.below (Below.refl _ _).drew, hB.drew⟩
                  case measure => simp [intOf]; omega
                · have x1 : ¬ x = y := HXY.out (by omega)
                  have x2 : ¬ y = x := fun e => x1 e.symm
                  have t0 : (d : Int) < (a : Int) := by omega
                  have t1 : ((a : Int) == (d : Int)) = false := by simp; omega
                  have t2 : min (a : Int) (d : Int) = (d : Int) := by omega
                  have t3 : ¬ (a : Int) = (d : Int) := by omega
                  go_wp2_with fail
                  go_region
                  have hO1 := ownInts_set hO HP.out.1 hlx (d : Int)
                  have hO2 := ownInts_set hO1 (by rw [List.length_set]; exact HP.out.1) (show y < N by omega) (d : Int)
                  have hB2 : Below W.heap.size W ((wr.setCell ⟨b, x, none⟩ (.int .i64 d)).setCell ⟨b, y, none⟩ (.int .i64 d)) := (hB.setCell (by exact Nat.le_trans hWb hbb) _).setCell (by exact Nat.le_trans hWb hbb) _
                  have HN : Hid (((l.set x (d : Int)).set y (d : Int)).length = N ∧ LInv N gens ((l.set x (d : Int)).set y (d : Int)) ∧ Pass N gens l0 q (x + 1) true ((l.set x (d : Int)).set y (d : Int))) := Lib.hid ⟨by rw [List.length_set, List.length_set]; exact HP.out.1, (HST.out d (by omega) (.inr ⟨rfl, hlt⟩)).1, HP.out.2.2.less (HST.out d (by omega) (.inr ⟨rfl, hlt⟩)).2⟩
                  clear hO hB hO1
                  go_wp2_with fail
                  go_roundw
                  case rel => exact ⟨x + 1, (l.set x (d : Int)).set y (d : Int), true, rfl, by go_num, by omega, HN, hO2.below (Below.refl _ _).drew, hB2.drew⟩
                  case measure => simp [intOf]; omega
              · obtain rfl : N = x := by omega
                have HE : Hid (l.length = N ∧ LInv N gens l ∧ Pass N gens l0 (q + 1) 0 ch l) := Lib.hid ⟨HP.out.1, HP.out.2.1, HP.out.2.2.next⟩
                go_wp2_with fail
                go_roundw
                case rel => exact ⟨q + 1, l, ch, rfl, by go_num, by omega, HE, hO, hB⟩
                case measure => simp [intOf]; omega
          · obtain rfl : m = q := by omega
            have HE : Hid (l.length = N ∧ LInv N gens l ∧ (ch = false → Still N gens l) ∧ (if ch then sumL l + 1 else 0) < gk) := Lib.hid ⟨HP.out.1, HP.out.2.1, fun h => by subst h; exact HP.out.2.2.still (by rw [hl0.out]; exact Nat.le_refl _), by
              rw [HG'.out]
              rcases HP.out.2.2 with ⟨h, _⟩ | ⟨h, h2⟩
              · rw [h]; simp
              · rw [h]; simp; omega⟩
            go_wp2_with fail
            go_roundg (if ch then sumL l + 1 else 0)
            case rel => exact ⟨l, ch, rfl, Lib.hid ⟨HE.out.1, HE.out.2.1, HE.out.2.2.1, rfl⟩, hO, hB⟩
            case measure => exact HE.out.2.2.2
  · have hne : (validE n gens != 0) = true := by simp [hv]
    have HC : Hid (orbR n gens = []) := Lib.hid (by unfold orbR; rw [if_pos hv])
    obtain ⟨ve, hve⟩ : ∃ ve, validE n gens = ve := ⟨_, rfl⟩
    rw [hve] at hV hne ⊢
    clear hv hve
    go_enter Try.func22, Try.ntmps22
    go_wp2_with fail
    refine hV.mono ?_
    rintro e w1 ⟨rfl, hB1⟩
    clear hV
    go_wp2_with fail
    (refine bodyPost_ret (v := .tuple #[.slice none 0 0, .int .i64 ve]) (by simp [results, Try.results22, go_sem]) rfl ?_)
    exact ⟨none, 0, 0, rfl, by rw [HC.out]; exact Rows.nil _, hB1⟩
end Go.Proofs.Ytkekkbbdhdamjaa
