/- Plain words on slices of ints and on slices of such slices in the model's memory, for the walks of this seat. No program in sight. -/
import Derived.WalkSmall
import Derived.Lib.Hide
namespace Go.Proofs.YtehoidohallfcaaGreatDoor
open Go.RowKit
structure Ints (w : World) (a : Option Addr) (n c : Nat) (l : List Int) : Prop where
 len : l.length = n
 cap : n ≤ c
 mx : c ≤ maxLen
 at' : 0 < n → ∃ b o, a = some ⟨b, o, none⟩ ∧ b < w.heap.size
 cell : ∀ b o, a = some ⟨b, o, none⟩ → ∀ i, i < n → w.cell? ⟨b, o + i, none⟩ = some (.int .i64 (l[i]?.getD 0))
theorem Ints.below {w w' : World} {a : Option Addr} {n c : Nat} {l : List Int} (h : Ints w a n c l) (hb : Below w.heap.size w w') : Ints w' a n c l where
 len := h.len
 cap := h.cap
 mx := h.mx
 at' := fun hn => let ⟨b, o, e, hl⟩ := h.at' hn; ⟨b, o, e, Nat.lt_of_lt_of_le hl hb.size⟩
 cell := fun b o e i hi => by
  obtain ⟨b', o', e', hl⟩ := h.at' (by omega)
  rw [e] at e'
  obtain ⟨rfl, rfl⟩ : b = b' ∧ o = o' := by simpa using e'
  rw [hb.cell (p := ⟨b, o + i, none⟩) hl]
  exact h.cell b o e i hi
theorem _root_.Go.RowKit.Below.drewN0 (w : World) (n : Nat) : Below w.heap.size w (w.drewN n) := ⟨rfl, rfl, rfl, Nat.le_refl _, fun _ _ => rfl⟩
theorem Ints.drewN {w : World} {a : Option Addr} {n c : Nat} {l : List Int} (h : Ints w a n c l) (k : Nat) : Ints (w.drewN k) a n c l := h.below (Below.drewN0 w k)
theorem Ints.nil (w : World) : Ints w none 0 0 [] := ⟨rfl, Nat.le_refl _, by simp [maxLen], fun h => absurd h (by omega), fun _ _ e => by cases e⟩
def OwnInts (w : World) (base : Nat) (e : TypeId) (v : Value) (l : List Int) : Prop := w.ownsRow base e 1 v l.length (l.map (Value.int .i64))
theorem own_slice {w : World} {base : Nat} {e : TypeId} {size : Nat} {v : Value} {n : Nat} {xs : List Value} (h : w.ownsRow base e size v n xs) :
 ∃ a c, v = .slice a n c ∧ n ≤ c ∧ c ≤ maxLen := by
 rcases h.2 with ⟨rfl, rfl⟩ | ⟨g, cap, cur, rfl, _, _, h1, h2, _⟩
 · exact ⟨none, 0, rfl, Nat.le_refl _, by simp [maxLen]⟩
 · exact ⟨_, cap, rfl, h1, h2⟩
theorem own_addr {w : World} {base : Nat} {e : TypeId} {a : Option Addr} {n c : Nat} {xs : List Value} (h : w.ownsRow base e 1 (.slice a n c) n xs) :
 (0 < n → ∃ b o, a = some ⟨b, o, none⟩ ∧ b < w.heap.size) ∧ ∀ b o, a = some ⟨b, o, none⟩ → ∀ i, i < n → w.cell? ⟨b, o + i, none⟩ = xs[i]? := by
 rcases h.2 with ⟨h1, h0⟩ | ⟨g, cap, cur, h1, _, hg, _⟩
 · exact ⟨fun h => by omega, fun _ _ _ i hi => by omega⟩
 · injection h1 with h1 _ h2
   subst h1 h2
   refine ⟨fun _ => ⟨g, 0, rfl, (Array.getElem?_eq_some_iff.1 hg).1⟩, fun b o eq i hi => ?_⟩
   obtain ⟨rfl, rfl⟩ : g = b ∧ 0 = o := by simpa using eq
   rw [Nat.zero_add, h.cellAt i (by omega)]
theorem OwnInts.ints {w : World} {base : Nat} {e : TypeId} {v : Value} {l : List Int} (h : OwnInts w base e v l) : ∃ a c, v = .slice a l.length c ∧ Ints w a l.length c l := by
 unfold OwnInts at h
 rcases h.2 with ⟨rfl, h0⟩ | ⟨g, cap, cur, rfl, _, hg, h1, h2, _⟩
 · have : l = [] := List.eq_nil_of_length_eq_zero h0
   subst this
   exact ⟨none, 0, rfl, Ints.nil w⟩
 · refine ⟨_, cap, rfl, rfl, h1, h2, fun _ => ⟨g, 0, rfl, (Array.getElem?_eq_some_iff.1 hg).1⟩, fun b o eq i hi => ?_⟩
   obtain ⟨rfl, rfl⟩ : g = b ∧ 0 = o := by simpa using eq
   have := h.cellAt i (by simpa using hi)
   rw [Nat.zero_add, this]
   simp [hi]
theorem ownsRow_below' {B : Nat} {e : TypeId} {k : Nat} {v : Value} {n : Nat} {xs : List Value} {w w' : World} (h : w.ownsRow B e k v n xs) (hb : Below w.heap.size w w') : w'.ownsRow B e k v n xs := by
 refine ⟨h.1, ?_⟩
 rcases h.2 with hn | ⟨g, cap, cur, rfl, hB, hg, rest⟩
 · exact .inl hn
 · refine .inr ⟨g, cap, cur, rfl, hB, ?_, rest⟩
   rw [hb.block g (Array.getElem?_eq_some_iff.1 hg).1]
   exact hg
theorem OwnInts.below {w w' : World} {base : Nat} {e : TypeId} {v : Value} {l : List Int} (h : OwnInts w base e v l) (hb : Below w.heap.size w w') : OwnInts w' base e v l := ownsRow_below' h hb
theorem ownsRow_mono' {w : World} {base base' : Nat} {e : TypeId} {size : Nat} {v : Value} {n : Nat} {xs : List Value} (h : w.ownsRow base e size v n xs) (hb : base' ≤ base) : w.ownsRow base' e size v n xs := by
 refine ⟨h.1, ?_⟩
 rcases h.2 with hn | ⟨g, cap, cur, hv, hB, rest⟩
 · exact .inl hn
 · exact .inr ⟨g, cap, cur, hv, by omega, rest⟩
def RetOwn (w : World) (E : TypeId) (l : List Int) (e : Ending) (w' : World) : Prop := ∃ v, e = .returned v ∧ OwnInts w' w.heap.size E v l ∧ Below w.heap.size w w'
theorem ret_bool {a b : Bool} (h : a = b) : Ending.returned (.bool a) = .returned (.bool b) := by rw [h]
theorem ret_int {k : IntKind} {a b : Int} (h : a = b) : Ending.returned (.int k a) = .returned (.int k b) := by rw [h]
structure Rows (w : World) (a : Option Addr) (n c : Nat) (ll : List (List Int)) : Prop where
 len : ll.length = n
 cap : n ≤ c
 mx : c ≤ maxLen
 at' : 0 < n → ∃ b o, a = some ⟨b, o, none⟩ ∧ b < w.heap.size
 row : ∀ b o, a = some ⟨b, o, none⟩ → ∀ i, i < n → ∃ ai ni ci, w.cell? ⟨b, o + i, none⟩ = some (.slice ai ni ci) ∧ Ints w ai ni ci (ll[i]?.getD [])
theorem Rows.below {w w' : World} {a : Option Addr} {n c : Nat} {ll : List (List Int)} (h : Rows w a n c ll) (hb : Below w.heap.size w w') : Rows w' a n c ll where
 len := h.len
 cap := h.cap
 mx := h.mx
 at' := fun hn => let ⟨b, o, e, hl⟩ := h.at' hn; ⟨b, o, e, Nat.lt_of_lt_of_le hl hb.size⟩
 row := fun b o e i hi => by
  obtain ⟨b', o', e', hl⟩ := h.at' (by omega)
  rw [e] at e'
  obtain ⟨rfl, rfl⟩ : b = b' ∧ o = o' := by simpa using e'
  obtain ⟨ai, ni, ci, hc, hI⟩ := h.row b o e i hi
  exact ⟨ai, ni, ci, by rw [hb.cell (p := ⟨b, o + i, none⟩) hl]; exact hc, hI.below hb⟩
theorem Rows.drewN {w : World} {a : Option Addr} {n c : Nat} {ll : List (List Int)} (h : Rows w a n c ll) (k : Nat) : Rows (w.drewN k) a n c ll := h.below (Below.drewN0 w k)
theorem Rows.nil (w : World) : Rows w none 0 0 [] := ⟨rfl, Nat.le_refl _, by simp [maxLen], fun h => absurd h (by omega), fun _ _ e => by cases e⟩
theorem quiet_ofX {P : Program} {f : FuncId} {args : Array Value} {W X : World} {v : Value} (h : Calls P f args W fun e w' => e = .returned v ∧ ∃ k, w' = W.drewN k) (hW : ∃ n, W = X.drewN n) :
 Calls P f args W fun e w'' => e = .returned v ∧ ∃ q, w'' = X.drewN q :=
 h.mono fun _ _ ⟨he, k, hk⟩ => ⟨he, by obtain ⟨n, hn⟩ := hW; exact ⟨n + k, by rw [hk, hn, World.drewN_drewN]⟩⟩
theorem quiet_ofY {P : Program} {f : FuncId} {args : Array Value} {X : World} {m n : Nat} {v : Value} (h : Calls P f args (X.drewN (m + n)) fun e w' => e = .returned v ∧ ∃ k, w' = (X.drewN (m + n)).drewN k) :
 Calls P f args (X.drewN (m + n)) fun e w'' => e = .returned v ∧ ∃ q, w'' = X.drewN (m + q) :=
 h.mono fun _ _ ⟨he, k, hk⟩ => ⟨he, n + k, by rw [hk, World.drewN_drewN, Nat.add_assoc]⟩
theorem OwnInts.made0 (w : World) (e : TypeId) (base : Nat) (hb : base ≤ w.heap.size) : OwnInts (w.alloc (.cells #[] e)) base e (.slice (some ⟨w.heap.size, 0, none⟩) 0 0) [] := World.ownsRow_made w #[] 0 hb (by simp [maxLen]) rfl
theorem OwnInts.nil (w : World) (e : TypeId) (base : Nat) : OwnInts w base e (.slice none 0 0) [] := World.ownsRow_nil w base e 1
theorem OwnInts.drewN {w : World} {base : Nat} {e : TypeId} {v : Value} {l : List Int} (h : OwnInts w base e v l) (k : Nat) : OwnInts (w.drewN k) base e v l := h.below (Below.drewN0 w k)
theorem _root_.Go.RowKit.Below.on {w a b : World} (h : Below w.heap.size w a) (k : Below a.heap.size a b) : Below w.heap.size w b := h.trans (k.mono h.size)
theorem OwnInts.snoc {w : World} {base : Nat} {e : TypeId} {v : Value} {l : List Int} {x : Int} (h : w.ownsRow base e 1 v (l.length + 1) (l.map (Value.int .i64) ++ [.int .i64 x])) : OwnInts w base e v (l ++ [x]) := by
 unfold OwnInts; simpa using h
def Elem (w : World) (row : Option Nat) (u : Value) (l : List Int) : Prop := ∃ a n c, u = .slice a n c ∧ Ints w a n c l ∧ (0 < n → u.ownBlock ≠ row)
inductive Elems (w : World) (row : Option Nat) : List Value → List (List Int) → Prop
 | nil : Elems w row [] []
 | cons {u l us ls} : Elem w row u l → Elems w row us ls → Elems w row (u :: us) (l :: ls)
def OwnRows (w : World) (base : Nat) (e : TypeId) (v : Value) (ll : List (List Int)) : Prop := ∃ us, w.ownsRow base e 1 v ll.length us ∧ Elems w v.ownBlock us ll
theorem Elems.snoc {w : World} {row : Option Nat} {us : List Value} {ls : List (List Int)} (h : Elems w row us ls) {u : Value} {l : List Int} (hu : Elem w row u l) : Elems w row (us ++ [u]) (ls ++ [l]) := by
 induction h with
 | nil => exact .cons hu .nil
 | cons h1 _ ih => exact .cons h1 ih
theorem Elems.mono {w w' : World} {row row' : Option Nat} {us : List Value} {ls : List (List Int)} (h : Elems w row us ls) (hf : ∀ u l, Elem w row u l → Elem w' row' u l) : Elems w' row' us ls := by
 induction h with
 | nil => exact .nil
 | cons h1 _ ih => exact .cons (hf _ _ h1) ih
theorem Elems.get {w : World} {row : Option Nat} {us : List Value} {ls : List (List Int)} (h : Elems w row us ls) : us.length = ls.length ∧ ∀ i, i < ls.length → ∃ u, us[i]? = some u ∧ Elem w row u (ls[i]?.getD []) := by
 induction h with
 | nil => exact ⟨rfl, fun i hi => by simp at hi⟩
 | cons h1 _ ih =>
  refine ⟨by simp [ih.1], fun i hi => ?_⟩
  cases i with
  | zero => exact ⟨_, rfl, by simpa using h1⟩
  | succ i => simpa using ih.2 i (by simpa using hi)
theorem Elem.below {w w' : World} {row : Option Nat} {u : Value} {l : List Int} (h : Elem w row u l) (hb : Below w.heap.size w w') : Elem w' row u l :=
 let ⟨a, n, c, e, hI, ho⟩ := h; ⟨a, n, c, e, hI.below hb, ho⟩
theorem OwnRows.nil (w : World) (base : Nat) (e : TypeId) : OwnRows w base e (.slice none 0 0) [] := ⟨[], World.ownsRow_nil w base e 1, .nil⟩
theorem OwnRows.below {w w' : World} {base : Nat} {e : TypeId} {v : Value} {ll : List (List Int)} (h : OwnRows w base e v ll) (hb : Below w.heap.size w w') : OwnRows w' base e v ll :=
 let ⟨us, h1, h2⟩ := h; ⟨us, ownsRow_below' h1 hb, h2.mono fun _ _ hu => hu.below hb⟩
theorem OwnRows.mono {w : World} {base base' : Nat} {e : TypeId} {v : Value} {ll : List (List Int)} (h : OwnRows w base e v ll) (hb : base' ≤ base) : OwnRows w base' e v ll :=
 let ⟨us, h1, h2⟩ := h; ⟨us, ownsRow_mono' h1 hb, h2⟩
theorem OwnRows.rows {w : World} {base : Nat} {e : TypeId} {v : Value} {ll : List (List Int)} (h : OwnRows w base e v ll) : ∃ a c, v = .slice a ll.length c ∧ Rows w a ll.length c ll := by
 obtain ⟨us, h1, h2⟩ := h
 have hg := h2.get
 rcases h1.2 with ⟨rfl, h0⟩ | ⟨g, cap, cur, rfl, _, hgb, hn, hm, _⟩
 · have : ll = [] := List.eq_nil_of_length_eq_zero h0
   subst this
   exact ⟨none, 0, rfl, Rows.nil w⟩
 · refine ⟨_, cap, rfl, rfl, hn, hm, fun _ => ⟨g, 0, rfl, (Array.getElem?_eq_some_iff.1 hgb).1⟩, fun b o eq i hi => ?_⟩
   obtain ⟨rfl, rfl⟩ : g = b ∧ 0 = o := by simpa using eq
   obtain ⟨u, hu, ai, ni, ci, rfl, hI, _⟩ := hg.2 i hi
   refine ⟨ai, ni, ci, ?_, hI⟩
   rw [Nat.zero_add, h1.cellAt i (by simpa using hi), hu]
theorem OwnRows.made0 (w : World) (e : TypeId) (base : Nat) (hb : base ≤ w.heap.size) : OwnRows (w.alloc (.cells #[] e)) base e (.slice (some ⟨w.heap.size, 0, none⟩) 0 0) [] := ⟨[], World.ownsRow_made w #[] 0 hb (by simp [maxLen]) rfl, .nil⟩
theorem OwnRows.drewN {w : World} {base : Nat} {e : TypeId} {v : Value} {ll : List (List Int)} (h : OwnRows w base e v ll) (k : Nat) : OwnRows (w.drewN k) base e v ll := h.below (Below.drewN0 w k)
theorem OwnRows.lt {w : World} {base : Nat} {e : TypeId} {v : Value} {ll : List (List Int)} (h : OwnRows w base e v ll) : ∀ k, v.ownBlock = some k → base ≤ k ∧ k < w.heap.size := let ⟨_, h1, _⟩ := h; h1.lt
theorem Ints.grown {w w' : World} {row : Option Nat} {a : Option Addr} {n c : Nat} {l : List Int} (h : Ints w a n c l) (hg : w.grownBy w' row) (hne : 0 < n → (Value.slice a n c).ownBlock ≠ row) : Ints w' a n c l where
 len := h.len
 cap := h.cap
 mx := h.mx
 at' := fun hn => let ⟨b, o, e, hl⟩ := h.at' hn; ⟨b, o, e, Nat.lt_of_lt_of_le hl hg.size⟩
 cell := fun b o e i hi => by
  obtain ⟨b', o', e', hl⟩ := h.at' (by omega)
  rw [e] at e'
  obtain ⟨rfl, rfl⟩ : b = b' ∧ o = o' := by simpa using e'
  have hne' : some b ≠ row := by
   have := hne (by omega)
   subst e; simpa [Value.ownBlock] using this
  exact (World.cell?_of_block (w := w) (hg.block b hl hne')).trans (h.cell b o e i hi)
theorem ownsRow_drewN {w : World} {base : Nat} {e : TypeId} {size : Nat} {v : Value} {n : Nat} {xs : List Value} (h : w.ownsRow base e size v n xs) (k : Nat) : (w.drewN k).ownsRow base e size v n xs := h
def Box (w : World) (B : Nat) (cs : Array Value) (t : TypeId) : Prop := w.heap[B]? = some (.cells cs t (0, 0))
theorem Box.lt {w : World} {B : Nat} {cs : Array Value} {t : TypeId} (h : Box w B cs t) : B < w.heap.size := lt_of_block h
theorem Box.cell {w : World} {B : Nat} {cs : Array Value} {t : TypeId} (h : Box w B cs t) (i : Nat) : w.cell? ⟨B, i, none⟩ = cs[i]? := cell_of_row w B i cs t (0, 0) h
theorem Box.frozen {w : World} {B : Nat} {cs : Array Value} {t : TypeId} (h : Box w B cs t) (i : Nat) : w.frozen? ⟨B, i, none⟩ = false := by
 unfold Box at h; simp [World.frozen?, h]
theorem Box.new (w : World) (cs : Array Value) (t : TypeId) : Box (w.alloc (.cells cs t)) w.heap.size cs t := heap_alloc_new w _
theorem Box.below {w w' : World} {B : Nat} {cs : Array Value} {t : TypeId} (h : Box w B cs t) (hb : Below w.heap.size w w') : Box w' B cs t := (hb.block B h.lt).trans h
theorem Box.alloc {w : World} {B : Nat} {cs : Array Value} {t : TypeId} (h : Box w B cs t) (o : Obj) : Box (w.alloc o) B cs t := (Below.heap_alloc w o B h.lt).trans h
theorem Box.drewN {w : World} {B : Nat} {cs : Array Value} {t : TypeId} (h : Box w B cs t) (k : Nat) : Box (w.drewN k) B cs t := h
theorem Box.grown {w w' : World} {row : Option Nat} {B : Nat} {cs : Array Value} {t : TypeId} (h : Box w B cs t) (hg : w.grownBy w' row) (hne : row ≠ some B) : Box w' B cs t := (hg.block B h.lt (Ne.symm hne)).trans h
theorem Box.setOther {w : World} {B : Nat} {cs : Array Value} {t : TypeId} (h : Box w B cs t) {a : Addr} (u : Value) (hne : B ≠ a.block) : Box (w.setCell a u) B cs t := (Below.heap_setCell w a u B hne).trans h
theorem Box.set {w : World} {B : Nat} {cs : Array Value} {t : TypeId} (h : Box w B cs t) (i : Nat) (u : Value) : Box (w.setCell ⟨B, i, none⟩ u) B (cs.setIfInBounds i u) t := by
 have hlt := h.lt
 have h' : w.heap[B] = .cells cs t (0, 0) := by have := h; unfold Box at this; simpa [Array.getElem?_eq_getElem hlt] using this
 show (w.heap.modify B _)[B]? = _
 rw [Array.getElem?_eq_getElem (by simpa using hlt), Array.getElem_modify_self, h']
 rfl
theorem OwnInts.setOther {w : World} {base : Nat} {e : TypeId} {v : Value} {l : List Int} (h : OwnInts w base e v l) {a : Addr} (u : Value) (hne : v.ownBlock ≠ some a.block) : OwnInts (w.setCell a u) base e v l := ownsRow_setCell_other h hne u
theorem OwnInts.grown {w w' : World} {row : Option Nat} {base : Nat} {e : TypeId} {v : Value} {l : List Int} (h : OwnInts w base e v l) (hg : w.grownBy w' row) (hne : v.ownBlock = none ∨ v.ownBlock ≠ row) : OwnInts w' base e v l := World.ownsRow.kept h hg hne
theorem OwnInts.lt {w : World} {base : Nat} {e : TypeId} {v : Value} {l : List Int} (h : OwnInts w base e v l) : ∀ k, v.ownBlock = some k → base ≤ k ∧ k < w.heap.size := World.ownsRow.lt h
theorem OwnInts.mono {w : World} {base base' : Nat} {e : TypeId} {v : Value} {l : List Int} (h : OwnInts w base e v l) (hb : base' ≤ base) : OwnInts w base' e v l := ownsRow_mono' h hb
theorem grownBy_setCell (w : World) (a : Addr) (u : Value) : w.grownBy (w.setCell a u) (some a.block) := ⟨rfl, rfl, rfl, by simp [World.setCell], fun k _ h => Below.heap_setCell w a u k (fun e => h (by rw [e]))⟩
theorem Ints.setOther {w : World} {a : Option Addr} {n c : Nat} {l : List Int} (h : Ints w a n c l) {p : Addr} (u : Value) (hne : 0 < n → (Value.slice a n c).ownBlock ≠ some p.block) : Ints (w.setCell p u) a n c l := h.grown (grownBy_setCell w p u) hne
section
variable {P : Program} (w : World)
theorem run_append_own2 (base : Nat) (t ty e : TypeId) (i : TypeInfo) (z : Value) (size bytes : Nat) (ht : P.underlying t = some (.slice e)) (hi : P.info? e = some i) (hz : i.zero = some z)
 (hsize : i.size = size) (hby : i.bytes = bytes) (hzs : z.cells.size = size) (hsz : 0 < size)
 (v : Value) (n : Nat) (xs : List Value) (hown : w.ownsRow base e size v n xs)
 (a : Addr) (m c : Nat) (news : List Value) (hl : news.length = m * size) (hnews : ∀ j u, news[j]? = some u → w.cell? (a.add j) = some u) (h1 : ∀ u ∈ news, u.oneCell' = true)
 (h63 : n + m ≤ maxLen) (hbytes : (n + m) * bytes ≤ 140737488355328) (hbase : base ≤ w.heap.size) :
 ∃ v' w', (Builtin.append_ #[t, t] ty #[v, .slice (some a) m c]).run P w = .ok v' w' ∧ w'.ownsRow base e size v' (n + m) (xs ++ news) ∧ w.grownBy w' v.ownBlock ∧
  (v'.ownBlock = v.ownBlock ∨ v'.ownBlock = some w.heap.size) := by
 by_cases hn : v.ownBlock = none
 · have hv : v = .slice none 0 0 ∧ n = 0 := by
    rcases hown.2 with h | ⟨g, cap, cur, rfl, _⟩
    · exact h
    · simp [Value.ownBlock] at hn
   obtain ⟨rfl, rfl⟩ := hv
   have hx : xs = [] := List.eq_nil_of_length_eq_zero (by simpa using hown.1)
   subst hx
   obtain ⟨v', w', hr, h2, h3, h4⟩ := run_append_own (P := P) w w.heap.size t ty e i z size bytes ht hi hz hsize hby hzs hsz (.slice none 0 0) 0 [] (World.ownsRow_nil w _ e size) a m c news hl hnews h1 h63 hbytes (Nat.le_refl _)
   refine ⟨v', w', hr, ownsRow_mono' h2 hbase, h3, ?_⟩
   rcases h2.2 with ⟨rfl, _⟩ | ⟨g, cap, cur, rfl, hg, hgb, _⟩
   · exact .inl rfl
   · -- the new row is the newest block: the only one beyond
     by_cases hm : m = 0
     · exact .inl (by have := h4.2 ⟨rfl, hm⟩; rw [this])
     · have hr2 := run_append_nil (P := P) w t ty e i z ht hi hz a m c news (by rw [hsize]; exact hl) hnews (by omega) (by simp only [maxLen] at h63; omega) (by rw [hby]; have hb := hbytes; simp only [Nat.zero_add] at hb; omega)
       rw [hr] at hr2
       injection hr2 with e1 e2
       exact .inr (by rw [e1]; rfl)
 · obtain ⟨g, cap, cur, rfl, hbg, hg, hnc, hcm, hcs, htake⟩ : ∃ g cap cur, v = .slice (some ⟨g, 0, none⟩) n cap ∧ base ≤ g ∧ w.heap[g]? = some (.cells cur e (0, 0)) ∧ n ≤ cap ∧ cap ≤ maxLen ∧ cur.size = cap * size ∧ cur.toList.take (n * size) = xs := by
    rcases hown.2 with ⟨rfl, _⟩ | h
    · exact absurd rfl hn
    · exact h
   obtain ⟨v', w', hr, h2, h3, _⟩ := run_append_own (P := P) w base t ty e i z size bytes ht hi hz hsize hby hzs hsz _ n xs hown a m c news hl hnews h1 h63 hbytes hbase
   refine ⟨v', w', hr, h2, h3, ?_⟩
   subst hsize
   subst hby
   by_cases hroom : n + m ≤ cap
   · have hfit : n * i.size + news.length ≤ cur.size := by rw [hl, hcs, ← Nat.add_mul]; exact Nat.mul_le_mul_right _ hroom
     have hr2 := run_append_room (P := P) w t ty e i ht hi g n cap cur hg a m c news hl hnews h1 hroom hfit
     rw [hr] at hr2
     injection hr2 with e1 e2
     exact .inl (by rw [e1]; rfl)
   · have holds : ∀ j u, xs[j]? = some u → w.cell? ((⟨g, 0, none⟩ : Addr).add j) = some u := hown.cells (g := g) rfl
     have hr2 := run_append_grow (P := P) w t ty e i z ht hi hz ⟨g, 0, none⟩ n cap xs hown.1 holds a m c news hl hnews (by omega) (by simp only [maxLen] at h63; omega) (growslice_fits (by simp only [maxLen] at h63; omega) hbytes)
     rw [hr] at hr2
     injection hr2 with e1 e2
     exact .inr (by rw [e1]; rfl)
theorem wpList_append_own2 {ops : Array Oper} {rest : List Oper} {o : Oper} {a : Act} {Q : Exit → Act → World → Prop} (hgd : o.guard = none) (s x : Operand) (t : TypeId)
 (ho : o.op = .call { callee := .builtin .append, args := #[s, x], argTypes := #[t, t] })
 (base : Nat) (e : TypeId) (i : TypeInfo) (z : Value) (size bytes : Nat) (ht : P.underlying t = some (.slice e)) (hi : P.info? e = some i) (hz : i.zero = some z)
 (hsize : i.size = size) (hby : i.bytes = bytes) (hzs : z.cells.size = size) (hsz : 0 < size)
 (v : Value) (n : Nat) (xs : List Value) (hown : w.ownsRow base e size v n xs) (hs : a.eval s = v)
 (ad : Addr) (m c : Nat) (news : List Value) (hx : a.eval x = .slice (some ad) m c) (hl : news.length = m * size) (hnews : ∀ j u, news[j]? = some u → w.cell? (ad.add j) = some u) (h1 : ∀ u ∈ news, u.oneCell' = true)
 (h63 : n + m ≤ maxLen) (hbytes : (n + m) * bytes ≤ 140737488355328) (hbase : base ≤ w.heap.size)
 (h : ∀ v' w', w'.ownsRow base e size v' (n + m) (xs ++ news) → w.grownBy w' v.ownBlock → (v'.ownBlock = v.ownBlock ∨ v'.ownBlock = some w.heap.size) → wpList P ops Q rest (a.put o.dst v') w') : wpList P ops Q (o :: rest) a w :=
 wpList_plain hgd fun K hK => by
  obtain ⟨v', w', hr, h2, h3, h4⟩ := run_append_own2 (P := P) w base t o.type e i z size bytes ht hi hz hsize hby hzs hsz v n xs hown ad m c news hl hnews h1 h63 hbytes hbase
  unfold Oper.wp execOp
  simp only [ho, resolve, invoke, builtin, Sem.run_bind, Sem.run_pure, Result.andThen_ok, List.map_toArray, List.map_cons, List.map_nil, hs, hx, hr]
  exact hK _ _ (h v' w' h2 h3 h4)
end
theorem step_append_own2 {P : Program} {ops : Array Oper} {o : Oper} {a : Act} {w : World} {K : Act → World → Prop} {Q : Exit → Act → World → Prop} {E : Prop} (hgd : o.guard = none) (s x : Operand) (t : TypeId)
 (ho : o.op = .call { callee := .builtin .append, args := #[s, x], argTypes := #[t, t] })
 (base : Nat) (e : TypeId) (i : TypeInfo) (z : Value) (size bytes : Nat) (ht : P.underlying t = some (.slice e)) (hi : P.info? e = some i) (hz : i.zero = some z)
 (hsize : i.size = size) (hby : i.bytes = bytes) (hzs : z.cells.size = size) (hsz : 0 < size)
 (v : Value) (n : Nat) (xs : List Value) (hown : w.ownsRow base e size v n xs) (hs : a.eval s = v)
 (ad : Addr) (m c : Nat) (news : List Value) (hx : a.eval x = .slice (some ad) m c) (hl : news.length = m * size) (hnews : ∀ j u, news[j]? = some u → w.cell? (ad.add j) = some u) (h1 : ∀ u ∈ news, u.oneCell' = true)
 (h63 : n + m ≤ maxLen) (hbytes : (n + m) * bytes ≤ 140737488355328) (hbase : base ≤ w.heap.size)
 (h : ∀ v' w', w'.ownsRow base e size v' (n + m) (xs ++ news) → w.grownBy w' v.ownBlock → (v'.ownBlock = v.ownBlock ∨ v'.ownBlock = some w.heap.size) → K (a.put o.dst v') w') :
 if Region.wanted o (yielded ops a.tmps) = true then Oper.wp P o a w K Q else E := by
 have hw : Region.wanted o (yielded ops a.tmps) = true := by simp [Region.wanted, hgd]
 rw [if_pos hw]
 obtain ⟨v', w', hr, h2, h3, h4⟩ := run_append_own2 (P := P) w base t o.type e i z size bytes ht hi hz hsize hby hzs hsz v n xs hown ad m c news hl hnews h1 h63 hbytes hbase
 unfold Oper.wp execOp
 simp only [ho, resolve, invoke, builtin, Sem.run_bind, Sem.run_pure, Result.andThen_ok, List.map_toArray, List.map_cons, List.map_nil, hs, hx, hr]
 exact h v' w' h2 h3 h4
theorem OwnRows.push {w w' : World} {base : Nat} {e : TypeId} {v v' : Value} {ll : List (List Int)} {us : List Value} {l : List Int} {a : Option Addr} {n c : Nat}
 (hE : Elems w v.ownBlock us ll) (hown' : w'.ownsRow base e 1 v' (ll.length + 1) (us ++ [.slice a n c])) (hg : w.grownBy w' v.ownBlock)
 (hfresh : v'.ownBlock = v.ownBlock ∨ v'.ownBlock = some w.heap.size)
 (hI : Ints w a n c l) (hne : 0 < n → (Value.slice a n c).ownBlock ≠ v.ownBlock) :
 OwnRows w' base e v' (ll ++ [l]) := by
 have key : ∀ a n c l, Ints w a n c l → (0 < n → (Value.slice a n c).ownBlock ≠ v.ownBlock) → Elem w' v'.ownBlock (.slice a n c) l := by
  intro a n c l hI hne
  refine ⟨a, n, c, rfl, hI.grown hg hne, fun hn => ?_⟩
  obtain ⟨b, o, rfl, hl⟩ := hI.at' hn
  rcases hfresh with h | h
  · rw [h]; exact hne hn
  · intro hh
    rw [h] at hh
    simp [Value.ownBlock] at hh
    omega
 exact ⟨us ++ [.slice a n c], by simpa using hown', Elems.snoc (hE.mono fun u l' ⟨a', n', c', e1, h1, h2⟩ => by subst e1; exact key _ _ _ _ h1 h2) (key _ _ _ _ hI hne)⟩
end Go.Proofs.YtehoidohallfcaaGreatDoor
/- Plain words on slices of structs: each element is k cells. No program in sight. -/
namespace Go.Proofs.YtehoidohallfcaaGreatDoor
open Go.RowKit
structure SL {α : Type} (enc : α → List Value) (k : Nat) (w : World) (a : Option Addr) (n c : Nat) (l : List α) : Prop where
 len : l.length = n
 cap : n ≤ c
 mx : c ≤ maxLen
 at' : 0 < n → ∃ b o, a = some ⟨b, o, none⟩ ∧ b < w.heap.size
 cell : ∀ b o, a = some ⟨b, o, none⟩ → ∀ i x, l[i]? = some x → ∀ j v, (enc x)[j]? = some v → w.cell? ⟨b, o + i * k + j, none⟩ = some v
section
variable {α : Type} {enc : α → List Value} {k : Nat} {w w' : World} {a : Option Addr} {n c : Nat} {l : List α}
theorem SL.lt (h : SL enc k w a n c l) {i : Nat} {x : α} (hx : l[i]? = some x) : i < n := by
 rw [← h.len]; exact (List.getElem?_eq_some_iff.1 hx).1
theorem SL.get (h : SL enc k w a n c l) {i : Nat} (hi : i < n) : ∃ x, l[i]? = some x := ⟨_, List.getElem?_eq_getElem (by rw [h.len]; exact hi)⟩
theorem SL.below (h : SL enc k w a n c l) (hb : Below w.heap.size w w') : SL enc k w' a n c l where
 len := h.len
 cap := h.cap
 mx := h.mx
 at' := fun hn => let ⟨b, o, e, hl⟩ := h.at' hn; ⟨b, o, e, Nat.lt_of_lt_of_le hl hb.size⟩
 cell := fun b o e i x hx j v hv => by
  obtain ⟨b', o', e', hl⟩ := h.at' (by have := h.lt hx; omega)
  rw [e] at e'
  obtain ⟨rfl, rfl⟩ : b = b' ∧ o = o' := by simpa using e'
  rw [hb.cell (p := ⟨b, o + i * k + j, none⟩) hl]
  exact h.cell b o e i x hx j v hv
theorem SL.drewN (h : SL enc k w a n c l) (q : Nat) : SL enc k (w.drewN q) a n c l := h.below (Below.drewN0 w q)
theorem SL.nil (enc : α → List Value) (k : Nat) (w : World) : SL enc k w none 0 0 [] := ⟨rfl, Nat.le_refl _, by simp [maxLen], fun h => absurd h (by omega), fun _ _ e => by cases e⟩
theorem SL.grown {row : Option Nat} (h : SL enc k w a n c l) (hg : w.grownBy w' row) (hne : 0 < n → (Value.slice a n c).ownBlock ≠ row) : SL enc k w' a n c l where
 len := h.len
 cap := h.cap
 mx := h.mx
 at' := fun hn => let ⟨b, o, e, hl⟩ := h.at' hn; ⟨b, o, e, Nat.lt_of_lt_of_le hl hg.size⟩
 cell := fun b o e i x hx j v hv => by
  have hi := h.lt hx
  obtain ⟨b', o', e', hl⟩ := h.at' (by omega)
  rw [e] at e'
  obtain ⟨rfl, rfl⟩ : b = b' ∧ o = o' := by simpa using e'
  have hne' : some b ≠ row := by
   have := hne (by omega)
   subst e; simpa [Value.ownBlock] using this
  exact (World.cell?_of_block (w := w) (hg.block b hl hne')).trans (h.cell b o e i x hx j v hv)
theorem SL.setOther (h : SL enc k w a n c l) {p : Addr} (u : Value) (hne : 0 < n → (Value.slice a n c).ownBlock ≠ some p.block) : SL enc k (w.setCell p u) a n c l := h.grown (grownBy_setCell w p u) hne
theorem SL.part {b o : Nat} (h : SL enc k w (some ⟨b, o, none⟩) n c l) {i m d : Nat} (hm : i + m ≤ n) (hd : m ≤ d) (hdc : d ≤ c) : SL enc k w (some ⟨b, o + i * k, none⟩) m d ((l.drop i).take m) where
 len := by rw [List.length_take, List.length_drop, h.len]; omega
 cap := hd
 mx := Nat.le_trans hdc h.mx
 at' := fun hm' => by
  obtain ⟨b', o', e', hl⟩ := h.at' (by omega)
  obtain ⟨rfl, rfl⟩ : b = b' ∧ o = o' := by simpa using e'
  exact ⟨b, _, rfl, hl⟩
 cell := fun b' o' e i' x hx j v hv => by
  obtain ⟨rfl, rfl⟩ : b = b' ∧ o + i * k = o' := by simpa using e
  have hx2 : l[i + i']? = some x := by
   rw [List.getElem?_take] at hx
   split at hx
   · rw [List.getElem?_drop] at hx; exact hx
   · cases hx
  have := h.cell b o rfl (i + i') x hx2 j v hv
  rw [Nat.add_mul, ← Nat.add_assoc] at this
  exact this
theorem flat_get (hk : ∀ x, (enc x).length = k) : ∀ (l : List α) (i : Nat) (x : α), l[i]? = some x → ∀ j, j < k → (l.flatMap enc)[i * k + j]? = (enc x)[j]?
 | [], i, x, h, j, hj => by simp at h
 | y :: l, 0, x, h, j, hj => by
  simp only [List.getElem?_cons_zero, Option.some.injEq] at h
  subst h
  rw [List.flatMap_cons, Nat.zero_mul, Nat.zero_add, List.getElem?_append_left (by rw [hk]; exact hj)]
 | y :: l, i + 1, x, h, j, hj => by
  rw [List.flatMap_cons, List.getElem?_append_right (by rw [hk, Nat.add_mul]; omega), hk]
  have := flat_get hk l i x (by simpa using h) j hj
  rw [show (i + 1) * k + j - k = i * k + j by rw [Nat.add_mul]; omega]
  exact this
theorem flat_len (hk : ∀ x, (enc x).length = k) (l : List α) : (l.flatMap enc).length = l.length * k := by
 induction l with
 | nil => simp
 | cons x l ih => rw [List.flatMap_cons, List.length_append, hk, ih, List.length_cons, Nat.add_mul]; omega
theorem flat_snoc (l : List α) (x : α) : (l ++ [x]).flatMap enc = l.flatMap enc ++ enc x := by simp
def OwnSL (enc : α → List Value) (k : Nat) (w : World) (base : Nat) (e : TypeId) (v : Value) (l : List α) : Prop := w.ownsRow base e k v l.length (l.flatMap enc)
variable {base base' : Nat} {e : TypeId} {v : Value}
theorem OwnSL.sl (h : OwnSL enc k w base e v l) (hk : ∀ x, (enc x).length = k) : ∃ a c, v = .slice a l.length c ∧ SL enc k w a l.length c l := by
 unfold OwnSL at h
 rcases h.2 with ⟨rfl, h0⟩ | ⟨g, cap, cur, rfl, _, hg, h1, h2, _⟩
 · have : l = [] := List.eq_nil_of_length_eq_zero h0
   subst this
   exact ⟨none, 0, rfl, SL.nil enc k w⟩
 · refine ⟨_, cap, rfl, rfl, h1, h2, fun _ => ⟨g, 0, rfl, (Array.getElem?_eq_some_iff.1 hg).1⟩, fun b o eq i x hx j v hv => ?_⟩
   obtain ⟨rfl, rfl⟩ : g = b ∧ 0 = o := by simpa using eq
   have hi := (List.getElem?_eq_some_iff.1 hx).1
   have hj : j < k := by rw [← hk x]; exact (List.getElem?_eq_some_iff.1 hv).1
   have hlt : i * k + j < l.length * k := by
    calc i * k + j < i * k + k := by omega
     _ = (i + 1) * k := by rw [Nat.add_mul, Nat.one_mul]
     _ ≤ l.length * k := Nat.mul_le_mul_right _ hi
   have := h.cellAt (i * k + j) hlt
   rw [Nat.zero_add, this, flat_get hk l i x hx j hj, hv]
theorem OwnSL.below (h : OwnSL enc k w base e v l) (hb : Below w.heap.size w w') : OwnSL enc k w' base e v l := ownsRow_below' h hb
theorem OwnSL.drewN (h : OwnSL enc k w base e v l) (q : Nat) : OwnSL enc k (w.drewN q) base e v l := h.below (Below.drewN0 w q)
theorem OwnSL.mono (h : OwnSL enc k w base e v l) (hb : base' ≤ base) : OwnSL enc k w base' e v l := ownsRow_mono' h hb
theorem OwnSL.made0 (enc : α → List Value) (k : Nat) (w : World) (e : TypeId) (base : Nat) (hb : base ≤ w.heap.size) : OwnSL enc k (w.alloc (.cells #[] e)) base e (.slice (some ⟨w.heap.size, 0, none⟩) 0 0) [] := World.ownsRow_made w #[] 0 hb (by simp [maxLen]) (by simp)
theorem OwnSL.nil (enc : α → List Value) (k : Nat) (w : World) (e : TypeId) (base : Nat) : OwnSL enc k w base e (.slice none 0 0) [] := World.ownsRow_nil w base e k
theorem OwnSL.grown {row : Option Nat} (h : OwnSL enc k w base e v l) (hg : w.grownBy w' row) (hne : v.ownBlock = none ∨ v.ownBlock ≠ row) : OwnSL enc k w' base e v l := World.ownsRow.kept h hg hne
theorem OwnSL.lt (h : OwnSL enc k w base e v l) : ∀ q, v.ownBlock = some q → base ≤ q ∧ q < w.heap.size := World.ownsRow.lt h
theorem OwnSL.snoc {x : α} (h : w.ownsRow base e k v (l.length + 1) (l.flatMap enc ++ enc x)) : OwnSL enc k w base e v (l ++ [x]) := by
 unfold OwnSL; rw [flat_snoc, List.length_append]; exact h
theorem OwnSL.setOther (h : OwnSL enc k w base e v l) {p : Addr} (u : Value) (hne : v.ownBlock ≠ some p.block) : OwnSL enc k (w.setCell p u) base e v l := ownsRow_setCell_other h hne u
def RetSL (enc : α → List Value) (k : Nat) (w : World) (E : TypeId) (l : List α) (e : Ending) (w' : World) : Prop := ∃ v, e = .returned v ∧ OwnSL enc k w' w.heap.size E v l ∧ Below w.heap.size w w'
end
end Go.Proofs.YtehoidohallfcaaGreatDoor
/- append onto a slice that has no room: the result is a row of the call's own. No program in sight. -/
namespace Go.Proofs.YtehoidohallfcaaGreatDoor
open Go.RowKit
section
variable {P : Program} (w : World)
theorem run_append_full (t ty e : TypeId) (i : TypeInfo) (z : Value) (size bytes : Nat) (ht : P.underlying t = some (.slice e)) (hi : P.info? e = some i) (hz : i.zero = some z)
 (hsize : i.size = size) (hby : i.bytes = bytes) (hzs : z.cells.size = size)
 (ao : Option Addr) (n : Nat) (xs : List Value) (hx : xs.length = n * size) (hxa : 0 < n → ∃ b, ao = some b) (hxs : ∀ b, ao = some b → ∀ j v, xs[j]? = some v → w.cell? (b.add j) = some v)
 (a : Addr) (m c : Nat) (news : List Value) (hl : news.length = m * size) (hnews : ∀ j u, news[j]? = some u → w.cell? (a.add j) = some u)
 (hm : 0 < m) (h63 : n + m ≤ maxLen) (hbytes : (n + m) * bytes ≤ 140737488355328) :
 ∃ v' w', (Builtin.append_ #[t, t] ty #[.slice ao n n, .slice (some a) m c]).run P w = .ok v' w' ∧ w'.ownsRow w.heap.size e size v' (n + m) (xs ++ news) ∧ Below w.heap.size w w' := by
 subst hsize
 subst hby
 have hlen : (xs ++ news).length = (n + m) * i.size := by rw [List.length_append, hx, hl, Nat.add_mul]
 have hsmall : n + m ≤ 9223372036854775807 := by simp only [maxLen] at h63; omega
 have grown : (w.drew.alloc (.cells (xs.toArray ++ news.toArray ++ Builtin.zeroCells z.cells (grownCap w (n + m) n e - (n + m))) e)).ownsRow w.heap.size e i.size
  (.slice (some ⟨w.heap.size, 0, none⟩) (n + m) (grownCap w (n + m) n e)) (n + m) (xs ++ news) := by
  have hge := grownCap_ge w (n + m) n e
  have hcm : grownCap w (n + m) n e ≤ maxLen := grownCap_le_maxLen w (n + m) n e h63
  refine ⟨hlen, .inr ⟨w.heap.size, _, _, rfl, Nat.le_refl _, heap_alloc_new w.drew _, hge, hcm, ?_, ?_⟩⟩
  · simp only [Array.size_append, List.size_toArray, size_zeroCells, hzs, hx, hl, ← Nat.add_mul]
    congr 1
    omega
  · simp only [Array.toList_append, List.append_assoc]
    rw [← List.append_assoc, ← hlen]
    exact List.take_left
 have hbel : ∀ o, Below w.heap.size w (w.drew.alloc o) := fun o => (Below.refl _ _).drew.alloc (Nat.le_refl _) _
 cases ao with
 | none =>
  have hn : n = 0 := by
   rcases Nat.eq_zero_or_pos n with h | h
   · exact h
   · obtain ⟨b, hb⟩ := hxa h; cases hb
  subst hn
  have hx0 : xs = [] := List.eq_nil_of_length_eq_zero (by simpa using hx)
  subst hx0
  have hr := run_append_nil (P := P) w t ty e i z ht hi hz a m c news hl hnews (by omega) (by omega) (by have hb := hbytes; simp only [Nat.zero_add] at hb; omega)
  simp only [Nat.zero_add, List.nil_append, Array.empty_append] at grown ⊢
  exact ⟨_, _, hr, grown, hbel _⟩
 | some b =>
  have hr := run_append_grow (P := P) w t ty e i z ht hi hz b n n xs hx (hxs b rfl) a m c news hl hnews (by omega) (by simp only [maxLen] at h63; omega) (growslice_fits (by omega) hbytes)
  exact ⟨_, _, hr, grown, hbel _⟩
end
end Go.Proofs.YtehoidohallfcaaGreatDoor
/- append of any slice (nil too) onto a row of the call's own, as a step of a region that draws. No program in sight. -/
namespace Go.Proofs.YtehoidohallfcaaGreatDoor
open Go.RowKit
section
variable {P : Program}
theorem run_append_owned_none2 {w : World} (base : Nat) (t ty e : TypeId) (i : TypeInfo) (size : Nat) (ht : P.underlying t = some (.slice e)) (hi : P.info? e = some i)
 (v : Value) (n : Nat) (xs : List Value) (c : Nat) (hown : w.ownsRow base e size v n xs) :
 (Builtin.append_ #[t, t] ty #[v, .slice none 0 c]).run P w = .ok v w := by
 rcases hown.2 with ⟨rfl, rfl⟩ | ⟨g, cap, cur, rfl, _, _, hnc, _⟩
 · simp [Builtin.append_, run_underlying ht, sizeOf, typeInfo, hi, Builtin.lenOf, Builtin.firstCells]
 · simp [Builtin.append_, run_underlying ht, sizeOf, typeInfo, hi, Builtin.lenOf, Builtin.firstCells, hnc, storeCells]
theorem run_append_any (w : World) (base : Nat) (t ty e : TypeId) (i : TypeInfo) (z : Value) (size bytes : Nat) (ht : P.underlying t = some (.slice e)) (hi : P.info? e = some i) (hz : i.zero = some z)
 (hsize : i.size = size) (hby : i.bytes = bytes) (hzs : z.cells.size = size) (hsz : 0 < size)
 (v : Value) (n : Nat) (xs : List Value) (hown : w.ownsRow base e size v n xs)
 (ao : Option Addr) (m c : Nat) (news : List Value) (hao : ao = none → m = 0) (hl : news.length = m * size) (hnews : ∀ ad, ao = some ad → ∀ j u, news[j]? = some u → w.cell? (ad.add j) = some u) (h1 : ∀ u ∈ news, u.oneCell' = true)
 (h63 : n + m ≤ maxLen) (hbytes : (n + m) * bytes ≤ 140737488355328) (hbase : base ≤ w.heap.size) :
 ∃ v' w', (Builtin.append_ #[t, t] ty #[v, .slice ao m c]).run P w = .ok v' w' ∧ w'.ownsRow base e size v' (n + m) (xs ++ news) ∧ w.grownBy w' v.ownBlock ∧
  (v'.ownBlock = v.ownBlock ∨ v'.ownBlock = some w.heap.size) := by
 cases ao with
 | none =>
  obtain rfl := hao rfl
  have : news = [] := List.eq_nil_of_length_eq_zero (by simpa using hl)
  subst this
  refine ⟨v, w, run_append_owned_none2 (P := P) (w := w) base t ty e i size ht hi v n xs c hown, by simpa using hown, ⟨rfl, rfl, rfl, Nat.le_refl _, fun _ _ _ => rfl⟩, .inl rfl⟩
 | some ad => exact run_append_own2 (P := P) w base t ty e i z size bytes ht hi hz hsize hby hzs hsz v n xs hown ad m c news hl (hnews ad rfl) h1 h63 hbytes hbase
theorem wpList_append_any {ops : Array Oper} {rest : List Oper} {o : Oper} {a : Act} {w : World} {Q : Exit → Act → World → Prop} (hgd : o.guard = none) (s x : Operand) (t : TypeId)
 (ho : o.op = .call { callee := .builtin .append, args := #[s, x], argTypes := #[t, t] })
 (base : Nat) (e : TypeId) (i : TypeInfo) (z : Value) (size bytes : Nat) (ht : P.underlying t = some (.slice e)) (hi : P.info? e = some i) (hz : i.zero = some z)
 (hsize : i.size = size) (hby : i.bytes = bytes) (hzs : z.cells.size = size) (hsz : 0 < size)
 (v : Value) (n : Nat) (xs : List Value) (hown : w.ownsRow base e size v n xs) (hs : a.eval s = v)
 (ao : Option Addr) (m c : Nat) (news : List Value) (hx : a.eval x = .slice ao m c) (hao : ao = none → m = 0) (hl : news.length = m * size) (hnews : ∀ ad, ao = some ad → ∀ j u, news[j]? = some u → w.cell? (ad.add j) = some u) (h1 : ∀ u ∈ news, u.oneCell' = true)
 (h63 : n + m ≤ maxLen) (hbytes : (n + m) * bytes ≤ 140737488355328) (hbase : base ≤ w.heap.size)
 (h : ∀ v' w', w'.ownsRow base e size v' (n + m) (xs ++ news) → w.grownBy w' v.ownBlock → (v'.ownBlock = v.ownBlock ∨ v'.ownBlock = some w.heap.size) → wpList P ops Q rest (a.put o.dst v') w') : wpList P ops Q (o :: rest) a w :=
 wpList_plain hgd fun K hK => by
  obtain ⟨v', w', hr, h2, h3, h4⟩ := run_append_any (P := P) w base t o.type e i z size bytes ht hi hz hsize hby hzs hsz v n xs hown ao m c news hao hl hnews h1 h63 hbytes hbase
  unfold Oper.wp execOp
  simp only [ho, resolve, invoke, builtin, Sem.run_bind, Sem.run_pure, Result.andThen_ok, List.map_toArray, List.map_cons, List.map_nil, hs, hx, hr]
  exact hK _ _ (h v' w' h2 h3 h4)
theorem step_append_any {ops : Array Oper} {o : Oper} {a : Act} {w : World} {K : Act → World → Prop} {Q : Exit → Act → World → Prop} {E : Prop} (hgd : o.guard = none) (s x : Operand) (t : TypeId)
 (ho : o.op = .call { callee := .builtin .append, args := #[s, x], argTypes := #[t, t] })
 (base : Nat) (e : TypeId) (i : TypeInfo) (z : Value) (size bytes : Nat) (ht : P.underlying t = some (.slice e)) (hi : P.info? e = some i) (hz : i.zero = some z)
 (hsize : i.size = size) (hby : i.bytes = bytes) (hzs : z.cells.size = size) (hsz : 0 < size)
 (v : Value) (n : Nat) (xs : List Value) (hown : w.ownsRow base e size v n xs) (hs : a.eval s = v)
 (ao : Option Addr) (m c : Nat) (news : List Value) (hx : a.eval x = .slice ao m c) (hao : ao = none → m = 0) (hl : news.length = m * size) (hnews : ∀ ad, ao = some ad → ∀ j u, news[j]? = some u → w.cell? (ad.add j) = some u) (h1 : ∀ u ∈ news, u.oneCell' = true)
 (h63 : n + m ≤ maxLen) (hbytes : (n + m) * bytes ≤ 140737488355328) (hbase : base ≤ w.heap.size)
 (h : ∀ v' w', w'.ownsRow base e size v' (n + m) (xs ++ news) → w.grownBy w' v.ownBlock → (v'.ownBlock = v.ownBlock ∨ v'.ownBlock = some w.heap.size) → K (a.put o.dst v') w') :
 if Region.wanted o (yielded ops a.tmps) = true then Oper.wp P o a w K Q else E := by
 have hw : Region.wanted o (yielded ops a.tmps) = true := by simp [Region.wanted, hgd]
 rw [if_pos hw]
 obtain ⟨v', w', hr, h2, h3, h4⟩ := run_append_any (P := P) w base t o.type e i z size bytes ht hi hz hsize hby hzs hsz v n xs hown ao m c news hao hl hnews h1 h63 hbytes hbase
 unfold Oper.wp execOp
 simp only [ho, resolve, invoke, builtin, Sem.run_bind, Sem.run_pure, Result.andThen_ok, List.map_toArray, List.map_cons, List.map_nil, hs, hx, hr]
 exact h v' w' h2 h3 h4
end
theorem l_t {α : Type} {l : List α} {i : Nat} (h : i < l.toArray.size) : l.toArray[i] = l[i]'(by simpa using h) := rfl
theorem l_s {α : Type} {x : α} {l : List α} {i : Nat} (h : i + 1 < (x :: l).length) : (x :: l)[i + 1] = l[i]'(Nat.lt_of_succ_lt_succ h) := rfl
theorem l_z {α : Type} {x : α} {l : List α} (h : 0 < (x :: l).length) : (x :: l)[0] = x := rfl
theorem s_t {α : Type} {l : List α} {i : Nat} {v : α} : l.toArray.setIfInBounds i v = (l.set i v).toArray := List.setIfInBounds_toArray l i v
theorem s_z {α : Type} {x v : α} {l : List α} : (x :: l).set 0 v = v :: l := rfl
theorem s_s {α : Type} {x v : α} {l : List α} {i : Nat} : (x :: l).set (i + 1) v = x :: l.set i v := rfl
end Go.Proofs.YtehoidohallfcaaGreatDoor
