/- Contract of ref.Keys. -/
import Derived.Test.YtfhekhjojdhmhaaFKeyM
import Derived.Test.YtfhekhjojdhmhaaFUpto
import Derived.Deep.RegionHeld3
import Derived.Deep.RegionLaw
import Derived.WalkKit
import Derived.WalkSpells
import Derived.WalkLawsBesides
import Derived.Deep.LoopGhost
import Derived.Deep.QuietTactic
import Derived.BigQuiet
import Derived.StillTailTactics
import Derived.Lib.Hide
import Derived.Outline
import Derived.Lib.QuietBelow
namespace Go.Proofs.Ytfhekhjojdhmhaa
open Go.RowKit

theorem info_key : (Try.prog.info? 24).map (fun i => (i.zero, i.size, i.bytes)) = some (some (.agg #[.int .i64 0, .int .i64 0, .int .i64 0]), 3, 24) := by kernel_rfl
theorem info3k : ∃ i, Try.prog.info? 24 = some i ∧ i.zero = some (.agg #[.int .i64 0, .int .i64 0, .int .i64 0]) ∧ i.size = 3 ∧ i.bytes = 24 := by
  obtain ⟨i, h1, h2, h3, h4⟩ := info_parts info_key
  exact ⟨i, h1, h2, h3, h4⟩
theorem SL.keyC {w : World} {b o n c : Nat} {l : List Key} {i : Nat} {f : Key} (h : SL encK 3 w (some ⟨b, o, none⟩) n c l) (hf : l[i]? = some f) :
    w.cell? ⟨b, o + i * 3, none⟩ = some (.int .i64 f.kd) ∧ w.cell? ⟨b, o + i * 3 + 1, none⟩ = some (.int .i64 f.sb) ∧ w.cell? ⟨b, o + i * 3 + 2, none⟩ = some (.int .i64 f.ob) :=
  ⟨h.cell _ _ rfl i f hf 0 _ rfl, h.cell _ _ rfl i f hf 1 _ rfl, h.cell _ _ rfl i f hf 2 _ rfl⟩
def At3 (w : World) (b o : Nat) (k : Key) : Prop := (w.cell? ⟨b, o, none⟩ = some (.int .i64 k.kd) ∧ w.cell? ⟨b, o + 1, none⟩ = some (.int .i64 k.sb) ∧ w.cell? ⟨b, o + 2, none⟩ = some (.int .i64 k.ob))
theorem At3.below {w w' : World} {b o : Nat} {k : Key} (h : At3 w b o k) (hb : Below w.heap.size w w') : At3 w' b o k := by
  obtain ⟨h0, h1, h2⟩ := h
  have l := World.block_lt_of_cell? w _ h0
  exact ⟨(hb.cell (p := ⟨b, o, none⟩) l).trans h0, (hb.cell (p := ⟨b, o + 1, none⟩) l).trans h1, (hb.cell (p := ⟨b, o + 2, none⟩) l).trans h2⟩
theorem keep33 {w0 w w' : World} {b1 o1 b2 o2 : Nat} {f g : Key} (h : At3 w b1 o1 f ∧ At3 w b2 o2 g ∧ Below w0.heap.size w0 w) (hb : Below w.heap.size w w') : At3 w' b1 o1 f ∧ At3 w' b2 o2 g ∧ Below w0.heap.size w0 w' :=
  ⟨h.1.below hb, h.2.1.below hb, h.2.2.on hb⟩
theorem new3 (w : World) (k : Key) (t : TypeId) : ∀ j u, (encK k)[j]? = some u → (w.alloc (.cells #[.int .i64 k.kd, .int .i64 k.sb, .int .i64 k.ob] t)).cell? (Addr.add ⟨w.heap.size, 0, none⟩ j) = some u := by
  intro j u hj
  have h := (Box.new w #[.int .i64 k.kd, .int .i64 k.sb, .int .i64 k.ob] t).cell (0 + j)
  rw [show (Addr.add ⟨w.heap.size, 0, none⟩ j) = ⟨w.heap.size, 0 + j, none⟩ by (simp [Addr.add]; try omega), h, Nat.zero_add]
  rw [← hj]; simp [encK]
theorem encK_one (k : Key) : ∀ u ∈ encK k, u.oneCell' = true := by intro u hu; simp [encK] at hu; rcases hu with rfl | rfl | rfl <;> rfl
theorem flatK_one (l : List Key) : ∀ u ∈ l.flatMap encK, u.oneCell' = true := by
  intro u hu
  rw [List.mem_flatMap] at hu
  obtain ⟨x, _, h⟩ := hu
  exact encK_one x u h
theorem own_one (X : World) (k : Key) : (X.alloc (.cells #[.int .i64 k.kd, .int .i64 k.sb, .int .i64 k.ob] 24)).ownsRow X.heap.size 24 3 (.slice (some ⟨X.heap.size, 0, none⟩) 1 1) 1 (encK k) :=
  ⟨rfl, .inr ⟨X.heap.size, 1, _, rfl, Nat.le_refl _, heap_alloc_new X _, Nat.le_refl _, by simp [maxLen], rfl, rfl⟩⟩
theorem Fact.key_eq (f : Fact) : keyV f.key = .agg #[.int .i64 f.kd, .int .i64 f.sb, .int .i64 f.ob] := rfl

set_option maxRecDepth 20000 in
set_option maxHeartbeats 4000000 in
theorem rkeys_any (a0 : Option Addr) (n0 c0 : Nat) (l : List Fact) (w : World) (h0 : SL encF 8 w a0 n0 c0 l) (hn : n0 ≤ 1000000) :
    Calls Try.prog 43 #[.slice a0 n0 c0] w (RetSL encK 3 w 24 (keysL l)) := by
  have hm0 := h0.mx
  have hc0 := h0.cap
  have hl0 := Lib.hid h0.len
  unfold maxLen at hm0
  have hg := guard_key
  have hal : Below w.heap.size w (w.alloc (.cells #[] 24)) := (Below.refl _ _).alloc (Nat.le_refl _) _
  have hO0 := OwnSL.made0 encK 3 w 24 w.heap.size (Nat.le_refl _)
  obtain ⟨i3k, hi3, hz30, hz31, hz32⟩ := info3k
  go_enter Try.func43, Try.ntmps43
  go_wp2_with fail
  go_loopw [3, 4] (fun v i wr => ∃ (j g c m : Nat), i = .int .i64 j ∧ j ≤ n0 ∧ v = .slice (some ⟨g, 0, none⟩) m c ∧ m ≤ j ∧ OwnSL encK 3 wr w.heap.size 24 v (keysL (l.take j)) ∧ Hid ((keysL (l.take j)).length = m) ∧ Below w.heap.size w wr) (fun _ i _ => n0 - (intOf i).toNat)
  case atStart => exact ⟨0, _, _, 0, rfl, by omega, rfl, by omega, hO0, Lib.hid rfl, hal⟩
  case round =>
    clear hal hO0
    obtain ⟨j, g, c, m, rfl, hj, rfl, hmj, hO, HM, hB⟩ := hrel
    by_cases hlt : j < n0
    · obtain ⟨b0, o0, rfl, hb0⟩ := h0.at' (by omega)
      obtain ⟨x, hx⟩ := h0.get hlt
      have HX := Lib.hid hx
      have HT : Hid (keysL (l.take (j + 1)) = insK x.key (keysL (l.take j))) := Lib.hid (by rw [takeF hx, keysL_snoc])
      obtain ⟨out, hout⟩ : ∃ out, keysL (l.take j) = out := ⟨_, rfl⟩
      rw [hout] at hO HM HT
      have HO := Lib.hid hout
      clear hout hx
      have hml := HM.out
      obtain ⟨a', c', e', hS⟩ := hO.sl encK_len
      rw [hml] at e' hS
      obtain ⟨rfl, rfl⟩ : some ⟨g, 0, none⟩ = a' ∧ c = c' := by injection e' with e1 e2 e3; exact ⟨e1, e3⟩
      have hSc := hS.cap
      have hSm := hS.mx
      have hgl : ∀ q, (Value.slice (some (⟨g, 0, none⟩ : Addr)) m c).ownBlock = some q → w.heap.size ≤ q ∧ q < wr.heap.size := hO.lt
      clear e' hml
      unfold maxLen at hSm
      go_wp2_with fail
      obtain ⟨wo, hwo⟩ : ∃ wo, wo = wr := ⟨_, rfl⟩
      have HWO := Lib.hid hwo
      rw [← hwo] at hO hB hS hgl
      clear hwo
      go_loopw [5] (fun i wr => ∃ n : Nat, i = .int .i64 n ∧ n ≤ m ∧ Hid (∀ q a, q < n → out[q]? = some a → lessK a x.key = true) ∧ Below wo.heap.size wo wr) (fun i _ => m - (intOf i).toNat)
      case atStart => exact ⟨0, rfl, by omega, Lib.hid (by intro q a hq; omega), by rw [HWO.out]; exact Below.refl _ _⟩
      case round =>
        obtain ⟨n, rfl, hnm, HL, hB2⟩ := hrel
        have hkx := (h0.below (hB.on hB2)).fact HX.out
        have hA2 : At3 wr b0 (o0 + j * 8) x.key := ⟨hkx.1, hkx.2.1, hkx.2.2.1⟩
        have hSr := hS.below hB2
        have t1 : (0 : Int) ≤ (n : Int) := by omega
        have t2 : (0 : Int) ≤ (j : Int) := by omega
        have t3 : (j : Int) < (n0 : Int) := by omega
        by_cases hn2 : n < m
        · have t4 : (n : Int) < (m : Int) := by omega
          obtain ⟨y, hy⟩ := hS.get hn2
          have hA1 : At3 wr g (n * 3) y := by have := hSr.keyC hy; rwa [Nat.zero_add] at this
          have HY := Lib.hid hy
          have HK := key_any y x.key
          clear hkx hy
          cases hly : lessK y x.key
          · rw [hly] at HK
            have HK := Lib.hid HK
            have HLY := Lib.hid hly
            clear hly
            go_wp2_with fail
            go_region_held3 (fun w' => (w'.cell? ⟨g, n * 3, none⟩ = some (.int .i64 y.kd) ∧ w'.cell? ⟨g, n * 3 + 1, none⟩ = some (.int .i64 y.sb) ∧ w'.cell? ⟨g, n * 3 + 2, none⟩ = some (.int .i64 y.ob)) ∧ (w'.cell? ⟨b0, o0 + j * 8, none⟩ = some (.int .i64 x.key.kd) ∧ w'.cell? ⟨b0, o0 + j * 8 + 1, none⟩ = some (.int .i64 x.key.sb) ∧ w'.cell? ⟨b0, o0 + j * 8 + 2, none⟩ = some (.int .i64 x.key.ob)) ∧ Below wr.heap.size wr w')
              (first | exact ⟨hA1, hA2, (Below.refl _ _).drew⟩ | exact keep33 (by assumption) (by assumption))
              (first | (go_at_call 57; refine (HK.out _).mono ?_; rintro e w' ⟨rfl, hb⟩))
            have hb2 : Below wr.heap.size wr w' := (Below.refl _ _).drew.on hb
            have hE : ∀ w, (Op.equalIn 10000 24 (keyV y) (keyV x.key)).run Try.prog w = .ok (decide (y = x.key)) w := eqInD_key 9998 y x.key
            obtain ⟨p0, p1, p2⟩ := hA1.below hb2
            obtain ⟨q0, q1, q2⟩ := hA2.below hb2
            by_cases hyx : y = x.key
            · rw [decide_eq_true hyx] at hE
              have HYX := Lib.hid hyx
              clear hyx
              go_wp2_with fail
              go_quiet (fail)
              go_wp2_with fail
              go_roundw
              case rel => exact ⟨j + 1, g, c, m, by go_num, by omega, rfl, by omega, by rw [HT.out, insK_eq out n HL.out (by rw [HY.out, HYX.out])]; exact (hO.below (hB2.on hb2)).drewN _, Lib.hid (by rw [HT.out, insK_eq out n HL.out (by rw [HY.out, HYX.out])]; exact HM.out), (hB.on (hB2.on hb2)).on (Below.drewN0 _ _)⟩
              case measure => simp [intOf]; omega
            · rw [decide_eq_false hyx] at hE
              have HYX := Lib.hid hyx
              clear hyx
              go_wp2_with fail
              go_quiet (fail)
              go_wp2_with fail
              obtain ⟨X, hXe⟩ : ∃ X, w'.drewN nq = X := ⟨_, rfl⟩
              have hBX : Below wr.heap.size wr X := by rw [← hXe]; exact hb2.on (Below.drewN0 _ _)
              have HNEW := Lib.hid (insK_new out n HL.out (by rw [HM.out]; omega) (fun a ha => by rw [HY.out] at ha; injection ha with ha; rw [← ha]; exact ⟨HLY.out, HYX.out⟩))
              rw [hXe]
              clear hXe p0 p1 p2 q0 q1 q2 hb hb2 hE
              have hBXw : Below w.heap.size w X := hB.on (hB2.on hBX)
              have hSX := hSr.below hBX
              have hA3 : At3 X b0 (o0 + j * 8) x.key := hA2.below hBX
              obtain ⟨q0, q1, q2⟩ := id hA3
              have k1 : (n : Int) ≤ (m : Int) := by omega
              have k2 : (m : Int) ≤ (c : Int) := by omega
              have k3 : (n : Int) ≤ (c : Int) := by omega
              have hdl : (out.drop n).length = m - n := by rw [List.length_drop, HM.out]
              have hq := hSX.part (i := 0) (m := n) (d := n) (by omega) (Nat.le_refl _) (by omega)
              rw [List.drop_zero, Nat.zero_mul, Nat.add_zero] at hq
              have htl : (out.take n).length = n := by rw [List.length_take, HM.out]; omega
              have hdt : (out.drop n).take (m - n) = out.drop n := List.take_of_length_le (by rw [List.length_drop, HM.out]; exact Nat.le_refl _)
              have hcn : ¬ c = n := by omega
              have hP := hSX.part (i := n) (m := m - n) (d := c - n) (by omega) (by omega) (by omega)
              rw [hdt, Nat.zero_add] at hP
              have hP := Lib.hid hP
              clear hdt hSX hA2 hSr
              go_region_law (go_loud (refine step_append_any rfl _ _ 37 rfl X.heap.size 24 i3k _ 3 24 Try.underlying37 hi3 hz30 hz31 hz32 rfl (by decide) (.slice (some ⟨X.heap.size, 0, none⟩) 1 1) 1 (encK x.key) (own_one X x.key) rfl (some ⟨g, n * 3, none⟩) (m - n) (c - n) ((out.drop n).flatMap encK) rfl (fun h => by cases h) (by rw [flat_len encK_len, hdl]) (fun ad had jj u hu => (hP.out.below ((Below.refl _ _).alloc (Nat.le_refl _) _).drew).flat encK_len (by decide) ad had (fun _ => trivial) jj u hu) (flatK_one _) (by unfold maxLen; omega) (by omega) (by simp) ?_; intro v5 w5 hown5 hgrow5 hfr5))
              obtain ⟨a5, c5, rfl, hac5, hmc5⟩ := own_slice hown5
              have hB5 : Below X.heap.size X w5 := (((Below.refl _ _).alloc (Nat.le_refl _) _).drew).grown hgrow5 (by simp) (fun k e => by simp [Value.ownBlock] at e; omega)
              have h55 : ∃ g5, a5 = some ⟨g5, 0, none⟩ := by
                rcases hown5.2 with ⟨e, h0'⟩ | ⟨g5, cap5, cur5, e, _⟩
                · omega
                · injection e with e1 e2 e3; exact ⟨g5, e1⟩
              obtain ⟨g5, rfl⟩ := h55
              clear hP hgrow5 hfr5 q0 q1 q2
              have hq5 := hq.below hB5
              have hB5w := hBXw.on hB5
              go_wp2_with (at_builtin; refine wpList_append_full rfl _ _ 37 rfl 24 i3k _ 3 24 Try.underlying37 hi3 hz30 hz31 hz32 rfl (some ⟨g, 0, none⟩) n ((out.take n).flatMap encK) rfl (by rw [flat_len encK_len, htl]) (fun _ => ⟨_, rfl⟩) (fun ad had jj u hu => hq5.flat encK_len (by decide) ad had (fun _ => trivial) jj u hu) ⟨g5, 0, none⟩ (1 + (m - n)) c5 (encK x.key ++ (out.drop n).flatMap encK) rfl hown5.1 (hown5.cells (g := g5) rfl) (by omega) (by unfold maxLen; omega) (by omega) ?_; intro v6 w6 hown6 hB6)
              have h66 : ∃ g6 c6, v6 = .slice (some ⟨g6, 0, none⟩) (m + 1) c6 := by
                rcases hown6.2 with ⟨e, h0'⟩ | ⟨g6, cap6, cur6, e, _⟩
                · omega
                · exact ⟨g6, cap6, by rw [e, show n + (1 + (m - n)) = m + 1 by omega]⟩
              obtain ⟨g6, c6, rfl⟩ := h66
              have hfl : (out.take n).flatMap encK ++ (encK x.key ++ (out.drop n).flatMap encK) = (insK x.key out).flatMap encK := by rw [HNEW.out, List.flatMap_append, List.flatMap_cons]
              have hil : (insK x.key out).length = m + 1 := by rw [HNEW.out, List.length_append, List.length_cons, htl, hdl]; omega
              rw [hfl, show n + (1 + (m - n)) = m + 1 by omega] at hown6
              go_roundw
              case rel => exact ⟨j + 1, g6, c6, m + 1, by go_num, by omega, rfl, by omega, by rw [HT.out]; unfold OwnSL; rw [hil]; exact ownsRow_mono' hown6 (by have := hB5w.size; omega), Lib.hid (by rw [HT.out]; exact hil), hB5w.on hB6⟩
              case measure => simp [intOf]; omega
          · rw [hly] at HK
            have HK := Lib.hid HK
            have HLY := Lib.hid hly
            clear hly
            go_wp2_with fail
            go_region_held3 (fun w' => (w'.cell? ⟨g, n * 3, none⟩ = some (.int .i64 y.kd) ∧ w'.cell? ⟨g, n * 3 + 1, none⟩ = some (.int .i64 y.sb) ∧ w'.cell? ⟨g, n * 3 + 2, none⟩ = some (.int .i64 y.ob)) ∧ (w'.cell? ⟨b0, o0 + j * 8, none⟩ = some (.int .i64 x.key.kd) ∧ w'.cell? ⟨b0, o0 + j * 8 + 1, none⟩ = some (.int .i64 x.key.sb) ∧ w'.cell? ⟨b0, o0 + j * 8 + 2, none⟩ = some (.int .i64 x.key.ob)) ∧ Below wr.heap.size wr w')
              (first | exact ⟨hA1, hA2, (Below.refl _ _).drew⟩ | exact keep33 (by assumption) (by assumption))
              (first | (go_at_call 57; refine (HK.out _).mono ?_; rintro e w' ⟨rfl, hb⟩))
            have hb2 : Below wr.heap.size wr w' := (Below.refl _ _).drew.on hb
            go_wp2_with fail
            go_roundw
            case rel =>
              refine ⟨n + 1, by go_num, by omega, Lib.hid fun q a hq ha => ?_, hB2.on hb2⟩
              by_cases hqn : q = n
              · subst hqn; rw [HY.out] at ha; injection ha with ha; rw [← ha]; exact HLY.out
              · exact HL.out q a (by omega) ha
            case measure => simp [intOf]; omega
        · have hnm : n = m := by omega
          have t4 : ¬ (n : Int) < (m : Int) := by omega
          go_wp2_with fail
          go_quiet (fail)
          obtain ⟨X1, hXe1⟩ : ∃ X, wr.drewN nq = X := ⟨_, rfl⟩
          have hBX1 : Below wr.heap.size wr X1 := by rw [← hXe1]; exact Below.drewN0 _ _
          rw [hXe1]
          clear hXe1
          go_wp2_with fail
          go_quiet (fail)
          obtain ⟨X, hXe⟩ : ∃ X, X1.drewN nq = X := ⟨_, rfl⟩
          have hBX : Below wr.heap.size wr X := by rw [← hXe]; exact hBX1.on (Below.drewN0 _ _)
          go_wp2_with fail
          have HNEW := Lib.hid (insK_new out n HL.out (by rw [HM.out]; omega) (fun a ha => by have := (List.getElem?_eq_some_iff.1 ha).1; rw [HM.out] at this; omega))
          rw [hXe]
          clear hXe
          subst hnm
          by_cases hcn : c = n
          · skip
            have hBXw : Below w.heap.size w X := hB.on (hB2.on hBX)
            have hSX := hSr.below hBX
            have hA3 : At3 X b0 (o0 + j * 8) x.key := hA2.below hBX
            obtain ⟨q0, q1, q2⟩ := id hA3
            have k1 : (n : Int) ≤ (n : Int) := by omega
            have k2 : (n : Int) ≤ (c : Int) := by omega
            have k3 : (n : Int) ≤ (c : Int) := by omega
            have hdl : (out.drop n).length = n - n := by rw [List.length_drop, HM.out]
            have hq := hSX.part (i := 0) (m := n) (d := n) (by omega) (Nat.le_refl _) (by omega)
            rw [List.drop_zero, Nat.zero_mul, Nat.add_zero] at hq
            have htl : (out.take n).length = n := by rw [List.length_take, HM.out]; omega
            go_region_law (fail)
            have hown5 : (X.alloc (.cells #[.int .i64 x.key.kd, .int .i64 x.key.sb, .int .i64 x.key.ob] 24)).drew.ownsRow X.heap.size 24 3 (.slice (some ⟨X.heap.size, 0, none⟩) 1 1) 1 (encK x.key ++ (out.drop n).flatMap encK) := by
              rw [List.eq_nil_of_length_eq_zero (show (out.drop n).length = 0 by omega), List.flatMap_nil, List.append_nil]
              exact own_one X x.key
            have hB5 : Below X.heap.size X (X.alloc (.cells #[.int .i64 x.key.kd, .int .i64 x.key.sb, .int .i64 x.key.ob] 24)).drew := ((Below.refl _ _).alloc (Nat.le_refl _) _).drew
            clear q0 q1 q2
            have hq5 := hq.below hB5
            have hB5w := hBXw.on hB5
            go_wp2_with (at_builtin; refine wpList_append_full rfl _ _ 37 rfl 24 i3k _ 3 24 Try.underlying37 hi3 hz30 hz31 hz32 rfl (some ⟨g, 0, none⟩) n ((out.take n).flatMap encK) rfl (by rw [flat_len encK_len, htl]) (fun _ => ⟨_, rfl⟩) (fun ad had jj u hu => hq5.flat encK_len (by decide) ad had (fun _ => trivial) jj u hu) ⟨X.heap.size, 0, none⟩ (1) 1 (encK x.key ++ (out.drop n).flatMap encK) rfl hown5.1 (hown5.cells (g := X.heap.size) rfl) (by omega) (by unfold maxLen; omega) (by omega) ?_; intro v6 w6 hown6 hB6)
            have h66 : ∃ g6 c6, v6 = .slice (some ⟨g6, 0, none⟩) (n + 1) c6 := by
              rcases hown6.2 with ⟨e, h0'⟩ | ⟨g6, cap6, cur6, e, _⟩
              · omega
              · exact ⟨g6, cap6, by rw [e, show n + (1) = n + 1 by omega]⟩
            obtain ⟨g6, c6, rfl⟩ := h66
            have hfl : (out.take n).flatMap encK ++ (encK x.key ++ (out.drop n).flatMap encK) = (insK x.key out).flatMap encK := by rw [HNEW.out, List.flatMap_append, List.flatMap_cons]
            have hil : (insK x.key out).length = n + 1 := by rw [HNEW.out, List.length_append, List.length_cons, htl, hdl]; omega
            rw [hfl, show n + (1) = n + 1 by omega] at hown6
            go_roundw
            case rel => exact ⟨j + 1, g6, c6, n + 1, by go_num, by omega, rfl, by omega, by rw [HT.out]; unfold OwnSL; rw [hil]; exact ownsRow_mono' hown6 (by have := hB5w.size; omega), Lib.hid (by rw [HT.out]; exact hil), hB5w.on hB6⟩
            case measure => simp [intOf]; omega
          · skip
            have hBXw : Below w.heap.size w X := hB.on (hB2.on hBX)
            have hSX := hSr.below hBX
            have hA3 : At3 X b0 (o0 + j * 8) x.key := hA2.below hBX
            obtain ⟨q0, q1, q2⟩ := id hA3
            have k1 : (n : Int) ≤ (n : Int) := by omega
            have k2 : (n : Int) ≤ (c : Int) := by omega
            have k3 : (n : Int) ≤ (c : Int) := by omega
            have hdl : (out.drop n).length = n - n := by rw [List.length_drop, HM.out]
            have hq := hSX.part (i := 0) (m := n) (d := n) (by omega) (Nat.le_refl _) (by omega)
            rw [List.drop_zero, Nat.zero_mul, Nat.add_zero] at hq
            have htl : (out.take n).length = n := by rw [List.length_take, HM.out]; omega
            go_region_law (fail)
            have hown5 : (X.alloc (.cells #[.int .i64 x.key.kd, .int .i64 x.key.sb, .int .i64 x.key.ob] 24)).drew.ownsRow X.heap.size 24 3 (.slice (some ⟨X.heap.size, 0, none⟩) 1 1) 1 (encK x.key ++ (out.drop n).flatMap encK) := by
              rw [List.eq_nil_of_length_eq_zero (show (out.drop n).length = 0 by omega), List.flatMap_nil, List.append_nil]
              exact own_one X x.key
            have hB5 : Below X.heap.size X (X.alloc (.cells #[.int .i64 x.key.kd, .int .i64 x.key.sb, .int .i64 x.key.ob] 24)).drew := ((Below.refl _ _).alloc (Nat.le_refl _) _).drew
            clear q0 q1 q2
            have hq5 := hq.below hB5
            have hB5w := hBXw.on hB5
            go_wp2_with (at_builtin; refine wpList_append_full rfl _ _ 37 rfl 24 i3k _ 3 24 Try.underlying37 hi3 hz30 hz31 hz32 rfl (some ⟨g, 0, none⟩) n ((out.take n).flatMap encK) rfl (by rw [flat_len encK_len, htl]) (fun _ => ⟨_, rfl⟩) (fun ad had jj u hu => hq5.flat encK_len (by decide) ad had (fun _ => trivial) jj u hu) ⟨X.heap.size, 0, none⟩ (1) 1 (encK x.key ++ (out.drop n).flatMap encK) rfl hown5.1 (hown5.cells (g := X.heap.size) rfl) (by omega) (by unfold maxLen; omega) (by omega) ?_; intro v6 w6 hown6 hB6)
            have h66 : ∃ g6 c6, v6 = .slice (some ⟨g6, 0, none⟩) (n + 1) c6 := by
              rcases hown6.2 with ⟨e, h0'⟩ | ⟨g6, cap6, cur6, e, _⟩
              · omega
              · exact ⟨g6, cap6, by rw [e, show n + (1) = n + 1 by omega]⟩
            obtain ⟨g6, c6, rfl⟩ := h66
            have hfl : (out.take n).flatMap encK ++ (encK x.key ++ (out.drop n).flatMap encK) = (insK x.key out).flatMap encK := by rw [HNEW.out, List.flatMap_append, List.flatMap_cons]
            have hil : (insK x.key out).length = n + 1 := by rw [HNEW.out, List.length_append, List.length_cons, htl, hdl]; omega
            rw [hfl, show n + (1) = n + 1 by omega] at hown6
            go_roundw
            case rel => exact ⟨j + 1, g6, c6, n + 1, by go_num, by omega, rfl, by omega, by rw [HT.out]; unfold OwnSL; rw [hil]; exact ownsRow_mono' hown6 (by have := hB5w.size; omega), Lib.hid (by rw [HT.out]; exact hil), hB5w.on hB6⟩
            case measure => simp [intOf]; omega
    · obtain rfl : j = n0 := by omega
      go_wp2_with fail
      go_ret
      refine ⟨_, rfl, ?_, hB⟩
      rw [List.take_of_length_le (by rw [hl0.out]; exact Nat.le_refl _)] at hO
      exact hO
end Go.Proofs.Ytfhekhjojdhmhaa
