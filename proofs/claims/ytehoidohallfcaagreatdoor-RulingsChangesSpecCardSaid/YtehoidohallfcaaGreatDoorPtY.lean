/- Contract of points.Run: state and plain laws, the pop. -/
import Derived.Test.YtehoidohallfcaaGreatDoorCnX
import Derived.Test.YtehoidohallfcaaGreatDoorPtX
namespace Go.Proofs.YtehoidohallfcaaGreatDoor
open Go.RowKit
theorem okW_st {ws : List Wd} (h : okW ws = true) : stB ws [] = some [false] ∧ ws.length ≤ 256 := by
 unfold okW at h
 rw [Bool.and_eq_true, decide_eq_true_eq] at h
 refine ⟨?_, h.1⟩
 have h2 := h.2
 split at h2
 · rename_i c e
   rw [e]
   cases c
   · rfl
   · cases h2
 · cases h2
theorem st_at {ws : List Wd} {s : List Bool} (h : stB ws [] = some s) {k : Nat} {x : Wd} (hx : ws[k]? = some x) : ∃ sb sb', stB (ws.take k) [] = some sb ∧ pushB sb x = some sb' ∧ stB (ws.take (k + 1)) [] = some sb' := by
 rw [← List.take_append_drop (k + 1) ws, stB_app, takeF hx, stB_snoc] at h
 cases e : stB (ws.take k) [] with
 | none => rw [e] at h; cases h
 | some sb =>
  rw [e] at h
  cases e2 : pushB sb x with
  | none => rw [Option.bind_some, e2] at h; cases h
  | some sb' => exact ⟨sb, sb', rfl, e2, by rw [takeF hx, stB_snoc, e, Option.bind_some, e2]⟩
theorem push_cases {sb sb' : List Bool} {x : Wd} (h : pushB sb x = some sb') : (x.op = 1) ∨ (x.op = 2 ∧ 0 ≤ x.n ∧ x.n < 5) ∨ (x.op = 10 ∧ 3 ≤ sb.length) ∨ (3 ≤ x.op ∧ x.op < 10 ∧ 2 ≤ sb.length) := by
 unfold pushB at h
 split at h
 · rename_i c; exact .inl c.1
 · split at h
   · rename_i c; exact .inr (.inl c)
   · split at h
     · rename_i c; exact .inr (.inr (.inl ⟨c.1, c.2.2.1⟩))
     · split at h
       · rename_i c; exact .inr (.inr (.inr ⟨c.1, c.2.1, c.2.2.2.1⟩))
       · cases h
structure StP (ws : List Wd) (inp : List Int) (k : Nat) (st : List Int) : Prop where
 eq : st = (ws.take k).foldl (pushI inp) []
 bs : ∃ sb, stB (ws.take k) [] = some sb ∧ st.length = sb.length
 bd : BdI st
 le : st.length ≤ k
theorem stP_start (ws : List Wd) (inp : List Int) : StP ws inp 0 [] := ⟨rfl, ⟨[], rfl, rfl⟩, (fun x h => by cases h), by simp⟩
theorem pushI_le (inp st : List Int) (x : Wd) : (pushI inp st x).length ≤ st.length + 1 := by
 unfold pushI
 split
 · simp
 · split
   · simp
   · split <;> simp <;> omega
theorem StP.step {ws : List Wd} {inp st : List Int} {k : Nat} {x : Wd} {s : List Bool} (h : StP ws inp k st) (hs : stB ws [] = some s) (hx : ws[k]? = some x) (hi : BdI inp) : StP ws inp (k + 1) (pushI inp st x) := by
 obtain ⟨sb, sb', h1, h2, h3⟩ := st_at hs hx
 obtain ⟨sb0, h4, h5⟩ := h.bs
 rw [h1] at h4; injection h4 with h4; subst h4
 refine ⟨by rw [takeF hx, List.foldl_append, ← h.eq]; rfl, ⟨sb', h3, pushB_len h2 inp st h5⟩, push_bd h2 hi h.bd, ?_⟩
 have := pushI_le inp st x
 have := h.le
 omega
theorem StP.cases {ws : List Wd} {inp st : List Int} {k : Nat} {x : Wd} {s : List Bool} (h : StP ws inp k st) (hs : stB ws [] = some s) (hx : ws[k]? = some x) : (x.op = 1) ∨ (x.op = 2 ∧ 0 ≤ x.n ∧ x.n < 5) ∨ (x.op = 10 ∧ 3 ≤ st.length) ∨ (3 ≤ x.op ∧ x.op < 10 ∧ 2 ≤ st.length) := by
 obtain ⟨sb, sb', h1, h2, h3⟩ := st_at hs hx
 obtain ⟨sb0, h4, h5⟩ := h.bs
 rw [h1] at h4; injection h4 with h4; subst h4
 rw [h5]; exact push_cases h2
theorem StP.done {ws : List Wd} {inp st : List Int} (h : StP ws inp ws.length st) (hs : stB ws [] = some [false]) : ∃ y, st = [y] ∧ runW ws inp = max 0 (min 1048576 y) := by
 obtain ⟨sb0, h4, h5⟩ := h.bs
 have e := h.eq
 rw [List.take_of_length_le (Nat.le_refl _)] at h4 e
 rw [hs] at h4; injection h4 with h4; subst h4
 obtain ⟨y, rfl⟩ : ∃ y, st = [y] := List.length_eq_one_iff.1 h5
 exact ⟨y, rfl, by unfold runW; rw [← e]; rfl⟩
theorem bd_of {inp : List Int} (h : ∀ x ∈ inp, 0 ≤ x ∧ x ≤ 1048576) : BdI inp := fun x hx => by have := h x hx; unfold topI; omega
theorem push1 (inp st : List Int) (n : Int) : pushI inp st ⟨1, n⟩ = st ++ [n] := rfl
theorem push2 (inp st : List Int) (n : Int) : pushI inp st ⟨2, n⟩ = st ++ [inp.getD n.toNat 0] := rfl
theorem push3 (inp st : List Int) (n : Int) : pushI inp st ⟨10, n⟩ = st.take (st.length - 3) ++ [if st.getD (st.length - 3) 0 ≠ 0 then st.getD (st.length - 2) 0 else st.getD (st.length - 1) 0] := rfl
theorem push4 (inp st : List Int) (op n : Int) (h3 : 3 ≤ op) (h10 : op < 10) : pushI inp st ⟨op, n⟩ = st.take (st.length - 2) ++ [opI op (st.getD (st.length - 2) 0) (st.getD (st.length - 1) 0)] := by
 unfold pushI
 rw [if_neg (show ¬ op = 1 by omega), if_neg (show ¬ op = 2 by omega), if_neg (show ¬ op = 10 by omega)]
def tabR : Array Value := #[.nilFunc, .nilFunc, .nilFunc, .func (.func 89) #[] #[], .func (.func 91) #[] #[], .func (.func 92) #[] #[], .func (.func 93) #[] #[], .func (.func 94) #[] #[], .func (.func 95) #[] #[], .func (.func 96) #[] #[]]
def FnO (f : FuncId) (op : Int) : Prop := ∀ (a b : Int) (W : World), BdX a → BdX b → Calls Tryz.prog f #[.int .i64 a, .int .i64 b] W (Int1 (opI op a b) W)
theorem tabR_get {j : Nat} (h3 : 3 ≤ j) (h10 : j < 10) : ∃ f, tabR[j]? = some (.func (.func f) #[] #[]) ∧ Enters Tryz.prog f ∧ FnO f j := by
 have hs : j = 3 ∨ j = 4 ∨ j = 5 ∨ j = 6 ∨ j = 7 ∨ j = 8 ∨ j = 9 := by omega
 rcases hs with rfl | rfl | rfl | rfl | rfl | rfl | rfl
 · exact ⟨_, rfl, enters_of Tryz.func89 (by kernel_rfl) rfl, fun a b W ha hb => add_run a b W ha hb⟩
 · exact ⟨_, rfl, enters_of Tryz.func91 (by kernel_rfl) rfl, fun a b W ha hb => sub_run a b W ha hb⟩
 · exact ⟨_, rfl, enters_of Tryz.func92 (by kernel_rfl) rfl, fun a b W ha hb => times_run a b W ha hb⟩
 · exact ⟨_, rfl, enters_of Tryz.func93 (by kernel_rfl) rfl, fun a b W ha hb => over_run a b W ha hb⟩
 · exact ⟨_, rfl, enters_of Tryz.func94 (by kernel_rfl) rfl, fun a b W _ _ => min_run a b W⟩
 · exact ⟨_, rfl, enters_of Tryz.func95 (by kernel_rfl) rfl, fun a b W _ _ => max_run a b W⟩
 · exact ⟨_, rfl, enters_of Tryz.func96 (by kernel_rfl) rfl, fun a b W _ _ => less_run a b W⟩
theorem ownI_take {w : World} {base : Nat} {e : TypeId} {a : Option Addr} {n c : Nat} {l : List Int} (h : OwnInts w base e (.slice a n c) l) {m : Nat} (hm : m ≤ l.length) : w.ownsRow base e 1 (.slice a m c) m ((l.take m).map (Value.int .i64)) := by
 unfold OwnInts at h
 refine ⟨by rw [List.length_map, List.length_take, Nat.min_eq_left hm, Nat.mul_one], ?_⟩
 rcases h.2 with ⟨e1, h0⟩ | ⟨g, cap, cur, e1, hB, hg, h1, h2, h3, h4⟩
 · injection e1 with e2 e3 e4
   subst e2 e4
   left
   exact ⟨by rw [show m = 0 by omega], by omega⟩
 · injection e1 with e2 e3 e4
   subst e2 e4
   right
   refine ⟨g, c, cur, rfl, hB, hg, by omega, h2, h3, ?_⟩
   rw [List.map_take, ← h4, List.take_take, Nat.mul_one, Nat.mul_one]
   congr 1
   omega
theorem ownI_take' {w : World} {base : Nat} {e : TypeId} {a : Option Addr} {n c : Nat} {l : List Int} (h : OwnInts w base e (.slice a n c) l) {m : Nat} (hm : m ≤ l.length) : OwnInts w base e (.slice a m c) (l.take m) := by
 have := ownI_take h hm
 unfold OwnInts
 rw [List.length_take, Nat.min_eq_left hm]
 exact this
structure StW (w : World) (B : Nat) (v : Value) (st : List Int) : Prop where
 box : Box w (B + 1) #[v] 22
 own : OwnInts w (B + 2) 3 v st
 tab : Box w B tabR 176
theorem StW.below {w w' : World} {B : Nat} {v : Value} {st : List Int} (h : StW w B v st) (hb : Below w.heap.size w w') : StW w' B v st := ⟨h.box.below hb, h.own.below hb, h.tab.below hb⟩
theorem StW.lt {w : World} {B : Nat} {v : Value} {st : List Int} (h : StW w B v st) : ∀ b, v.ownBlock = some b → B + 2 ≤ b ∧ b < w.heap.size := h.own.lt
theorem StW.put {w w' : World} {B : Nat} {v v' : Value} {st : List Int} {m : Nat} {x : Int} (h : StW w B v st) (hm : m ≤ st.length)
 (hown : w'.ownsRow (B + 2) 3 1 v' (m + 1) ((st.take m).map (Value.int .i64) ++ [.int .i64 x])) (hg : w.grownBy w' v.ownBlock) (hor : v'.ownBlock = v.ownBlock ∨ v'.ownBlock = some w.heap.size) :
 StW (w'.setCell ⟨B + 1, 0, none⟩ v') B v' (st.take m ++ [x]) := by
 have hlt := h.lt
 have hvB : v.ownBlock ≠ some (B + 1) := fun e => by have := (hlt _ e).1; omega
 have hvB0 : v.ownBlock ≠ some B := fun e => by have := (hlt _ e).1; omega
 have hbb := h.box.lt
 have hv'B : ∀ b, v'.ownBlock = some b → B + 2 ≤ b := fun b e => by
  rcases hor with h1 | h1
  · exact (hlt b (by rw [← h1]; exact e)).1
  · rw [h1] at e; injection e with e; subst e
    omega
 refine ⟨?_, ?_, ?_⟩
 · have := (h.box.grown hg hvB).set 0 v'
   simpa using this
 · refine OwnInts.setOther (w := w') ?_ v' fun e => ?_
   · unfold OwnInts
     rw [List.length_append, List.length_take, Nat.min_eq_left hm, List.map_append]
     simpa using hown
   · have := hv'B _ e; simp at this
 · exact (h.tab.grown hg hvB0).setOther v' (by simp)
theorem StW.pop {w : World} {B : Nat} {a : Option Addr} {n c m : Nat} {st : List Int} (h : StW w B (.slice a n c) st) (hm : m ≤ st.length) : StW (w.setCell ⟨B + 1, 0, none⟩ (.slice a m c)) B (.slice a m c) (st.take m) := by
 have hlt := h.lt
 refine ⟨?_, ?_, ?_⟩
 · have := h.box.set 0 (.slice a m c)
   simpa using this
 · refine OwnInts.setOther (w := w) (ownI_take' h.own hm) _ fun e => ?_
   have : (Value.slice a n c).ownBlock = some (B + 1) := by cases a <;> exact e
   have := (hlt _ this).1
   omega
 · exact h.tab.setOther _ (by simp)
theorem StW.far {w w' : World} {B : Nat} {v : Value} {st : List Int} (h : StW w B v st) (hg : w.grownBy w' v.ownBlock) : w'.cell? ⟨B + 1, 0, none⟩ = some v ∧ w'.frozen? ⟨B + 1, 0, none⟩ = false ∧ B + 1 < w'.heap.size := by
 have hb := h.box.grown hg fun e => by have := (h.lt _ e).1; omega
 exact ⟨hb.cell 0, hb.frozen 0, hb.lt⟩
theorem pop_any (w : World) (B : Nat) (v : Value) (st : List Int) (m : Nat) (h : StW w B v st) (hm : st.length = m + 1) :
 Calls Tryz.prog 97 #[.pointer (some ⟨B + 1, 0, none⟩)] w fun e w' => ∃ v', e = .returned (.int .i64 (st.getD m 0)) ∧ StW w' B v' (st.take m) ∧ w.grownBy w' (some (B + 1)) ∧ w'.heap.size = w.heap.size := by
 obtain ⟨a, c, rfl, hI⟩ := h.own.ints
 have hc := h.box.cell 0
 have hf := h.box.frozen 0
 have hl := h.box.lt
 simp only [List.getElem?_toArray, List.getElem?_cons_zero] at hc
 rw [hm] at hc hI h
 obtain ⟨g, o, rfl, hgl⟩ := hI.at' (by omega)
 have hx := hI.cell g o rfl m (by omega)
 have hcap := hI.cap
 have HV : Hid (st[m]?.getD 0 = st.getD m 0) := Lib.hid (by rw [List.getD_eq_getElem?_getD])
 have HP := Lib.hid (h.pop (m := m) (by omega))
 have x1 : IntKind.i64.wrap (((m + 1 : Nat) : Int) - 1) = (m : Int) := by rw [IntKind.wrap_i64]; have := hI.mx; unfold maxLen at this; omega
 have x0 : IntKind.i64.wrap (m : Int) = (m : Int) := by rw [IntKind.wrap_i64]; have := hI.mx; unfold maxLen at this; omega
 have x2 : (0 : Int) ≤ (m : Int) := by omega
 have x3 : (m : Int) < ((m + 1 : Nat) : Int) := by omega
 have x4 : (m : Int) ≤ (c : Int) := by omega
 rw [HV.out] at hx
 clear hI h hm
 go_enter Tryz.func97, Tryz.ntmps97
 go_wp2_with fail
 go_ret
 exact ⟨_, rfl, HP.out, grownBy_setCell _ _ _, by simp [World.setCell]⟩
open Go.RowKit
section
variable {P : Program} {ops : Array Oper} {Q : Exit → Act → World → Prop} {md : Region.Mode} {S : World → Prop} {q : Nat}
def AnyQ (P : Program) (md : Region.Mode) (ops : Array Oper) (Q : Exit → Act → World → Prop) (S : World → Prop) (q : Nat) : Nat → Array Bool → Act → World → Prop
 | 0, L, a, w => Region.ready md ops L = [] ∧ Q .normal a w
 | f + 1, L, a, w => (Region.ready md ops L = [] → Q .normal a w) ∧
  ∀ i, i ∈ Region.ready md ops L → wpOp P ops Q i (fun b v => ((L.setIfInBounds i true).getD q true = false → S v) ∧ AnyQ P md ops Q S q f (L.setIfInBounds i true) b v) a w
theorem AnyQ.any : ∀ {f : Nat} {L : Array Bool} {a : Act} {w : World}, AnyQ P md ops Q S q f L a w → wpAny P md ops Q f L a w
 | 0, _, _, _, h => h
 | _ + 1, _, _, _, h => And.intro h.1 fun i hi => wpOp_mono (fun _ _ h' => AnyQ.any h'.2) (h.2 i hi)
def waitsB (md : Region.Mode) (ops : Array Oper) (i : Nat) (B : List Nat) : Bool := B.all fun j => j == i || match ops[j]? with
 | some o => o.after.any fun e => Region.binds md e && B.contains e.on
 | none => false
def waitsL (md : Region.Mode) (ops : Array Oper) (i : Nat) : List Nat := (List.range ops.size).foldl (fun B j => if j == i || (match ops[j]? with
 | some o => o.after.any fun e => Region.binds md e && B.contains e.on
 | none => false) then j :: B else B) []
theorem waits_spec {i : Nat} {B : List Nat} (h : waitsB md ops i B = true) {j : Nat} (hj : j ∈ B) (hne : j ≠ i) : ∃ o e, ops[j]? = some o ∧ e ∈ o.after ∧ Region.binds md e = true ∧ e.on ∈ B := by
 have := List.all_eq_true.1 h j hj
 rw [Bool.or_eq_true] at this
 rcases this with h1 | h1
 · exact absurd (by simpa using h1) hne
 · cases e : ops[j]? with
   | none => rw [e] at h1; cases h1
   | some o =>
    rw [e] at h1
    obtain ⟨x, hx, h2⟩ := Array.any_eq_true'.1 h1
    rw [Bool.and_eq_true] at h2
    exact ⟨o, x, rfl, hx, h2.1, by simpa using h2.2⟩
theorem AnyQ.first {i : Nat} {oi : Oper} {v : Value} (hi : ops[i]? = some oi) (hsel : ∀ (j : Nat) (o : Oper) cs b, ops[j]? = some o → o.op ≠ .select cs b)
 (hQ : ∀ c a w, Q (.panic c) (a.put oi.dst v) w → Q (.panic c) a w) {B : List Nat} (hB : waitsB md ops i B = true) (hq : q ∈ B) (hqi : q ≠ i) :
 ∀ (f : Nat) (L : Array Bool) (a : Act) (w : World), (∀ j oj, ops[j]? = some oj → j ≠ i → L.getD j true = false → (∀ e ∈ oj.after, Region.binds md e = true → e.on ≠ i) → oi.apart ops oj = true) →
  (∀ j, j ∈ B → L.getD j true = false) → i ∈ Region.ready md ops L → YieldsIf P ops S oi v a → S w → AnyQ P md ops Q S q f (L.setIfInBounds i true) (a.put oi.dst v) w → AnyQ P md ops Q S q (f + 1) L a w := by
 intro f
 induction f with
 | zero =>
  intro L a w hap hL hr hy hS H
  refine ⟨fun h0 => ?_, fun j hj => ?_⟩
  · rw [h0] at hr; cases hr
  · by_cases e : j = i
    · subst e; exact hy.wpOp hi hS ⟨fun _ => hS, H⟩
    · have h1 := ready_mono hj e
      rw [H.1] at h1; cases h1
 | succ f ih =>
  intro L a w hap hL hr hy hS H
  refine ⟨fun h0 => ?_, fun j hj => ?_⟩
  · rw [h0] at hr; cases hr
  by_cases e : j = i
  · subst e; exact hy.wpOp hi hS ⟨fun _ => hS, H⟩
  have hmj := mem_ready.1 hj
  obtain ⟨hun, oj, hoj, hdep⟩ := hmj
  have hil := (mem_ready.1 hr).1
  have hset : ∀ k, L.getD k true = false → L.getD k false = false := fun k h => by
   by_cases hk : k < L.size
   · simp [hk] at h ⊢; exact h
   · simp [hk] at h
  have hjB : j ∉ B := fun hjB => by
   obtain ⟨o', x, ho', hx, hb, hxB⟩ := waits_spec hB hjB e
   rw [hoj] at ho'; injection ho' with ho'; subst ho'
   have h1 := hdep x hx hb
   rw [hset _ (hL _ hxB)] at h1; cases h1
  have hno : ∀ x ∈ oj.after, Region.binds md x = true → x.on ≠ i := fun x hx hb he => by
   have h1 := hdep x hx hb
   rw [he, hset _ hil] at h1; cases h1
  have hqj : q ≠ j := fun h => hjB (h ▸ hq)
  have h2 := wpOp_putIf hoj (hap j oj hoj e hun hno) (fun cs b => hsel i oi cs b hi) (fun cs b => hsel j oj cs b hoj) hQ hy (H.2 j (ready_mono hj e))
  refine wpOp_mono (fun b u h3 => ?_) h2
  obtain ⟨hyb, hSu, hrest⟩ := h3
  have hq2 : ((L.setIfInBounds i true).setIfInBounds j true).getD q true = false := by
   rw [getD_set_ne true (Ne.symm hqj), getD_set_ne true (Ne.symm hqi)]; exact hL q hq
  have hSu' := hSu hq2
  refine ⟨fun _ => hSu', ih _ b u (fun k ok hk hki hku hkn => ?_) (fun k hk => ?_) (ready_mono hr (Ne.symm e)) hyb hSu' ?_⟩
  · refine hap k ok hk hki ?_ hkn
    by_cases ejk : j = k
    · rw [← ejk]; exact hun
    · rw [getD_set_ne true ejk] at hku; exact hku
  · rw [getD_set_ne true (fun h : j = k => hjB (h ▸ hk))]; exact hL k hk
  · rw [Array.setIfInBounds_comm _ _ e]; exact hrest
theorem AnyQ.take {i : Nat} {oi : Oper} {v : Value} {f : Nat} {L : Array Bool} {a : Act} {w : World} (hi : ops[i]? = some oi)
 (hs : Region.noSelect ops = true) (hf : Region.free md ops L i = true) (hr : (Region.ready md ops L).contains i = true) (hB : (waitsB md ops i (waitsL md ops i) && (waitsL md ops i).contains q && (waitsL md ops i).all fun j => L.getD j true == false) = true) (hqi : (q == i) = false)
 (hQ : ∀ c a w, Q (.panic c) (a.put oi.dst v) w → Q (.panic c) a w) (hy : YieldsIf P ops S oi v a) (hS : S w)
 (h : AnyQ P md ops Q S q f (L.setIfInBounds i true) (a.put oi.dst v) w) : AnyQ P md ops Q S q (f + 1) L a w := by
 rw [Bool.and_eq_true, Bool.and_eq_true] at hB
 refine AnyQ.first hi (Region.noSelect_spec hs) hQ hB.1.1 (by simpa using hB.1.2) (by simpa using hqi) f L a w (Region.free_spec hi hf) (fun j hj => ?_) (by simpa using hr) hy hS h
 simpa using List.all_eq_true.1 hB.2 j hj
theorem AnyQ.one {i : Nat} {o : Oper} {f : Nat} {L : Array Bool} {a : Act} {w : World} (hr : Region.ready md ops L = [i]) (ho : ops[i]? = some o)
 (h : ∀ K' : Act → World → Prop, Shut (∀ b u, ((L.setIfInBounds i true).getD q true = false → S u) → AnyQ P md ops Q S q f (L.setIfInBounds i true) b u → K' b u) → if Region.wanted o (yielded ops a.tmps) = true then Oper.wp P o a w K' Q else K' (a.put o.dst undef) w) : AnyQ P md ops Q S q (f + 1) L a w := by
 refine ⟨fun h0 => ?_, fun j hj => ?_⟩
 · rw [h0] at hr; cases hr
 · rw [hr, List.mem_singleton] at hj
   subst hj
   exact wpOp_step ho fun K' hK => h K' fun b u h1 h2 => hK b u ⟨h1, h2⟩
theorem AnyQ.done {L : Array Bool} {a : Act} {w : World} (hr : Region.ready md ops L = []) (h : Q .normal a w) : ∀ f, AnyQ P md ops Q S q f L a w
 | 0 => ⟨hr, h⟩
 | _ + 1 => ⟨fun _ => h, by rw [hr]; simp⟩
theorem region_anyQ {id : Nat} {a : Act} {w : World} (S : World → Prop) (q : Nat) (hm : P.follows .mixedOrders = true) (hS : S w.drew)
 (h : S w.drew → AnyQ P .any ops Q S q ops.size (Array.replicate ops.size false) a w.drew) : (Code.region id ops true).wp P Q a w :=
 wp_region_any hm (h hS).any
end
end Go.Proofs.YtehoidohallfcaaGreatDoor
