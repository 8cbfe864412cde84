/- Closed facts of the program's head, reckoned word by word: the great head line is not evaluated whole. -/
import Derived.Test.YtkekkbbdhdamjaaRows
import Derived.JoinedOf
namespace Go.Proofs.Ytkekkbbdhdamjaa

set_option maxRecDepth 100000
theorem toList_of {s : String} {l : List Char} (h : s = String.ofList l) : s.toList = l := by subst h; exact String.toList_ofList
def headChars : { l : List Char // Try.prog.initOrder.toList = l } := ⟨_, toList_of (by dsimp only [Try.prog, Try.progTables]; first | done | exact rfl)⟩
theorem words_word (r : List Char) : ∀ (w : List Char), (∀ c ∈ w, c ≠ Char.ofNat 32) → wordsSigns (w ++ Char.ofNat 32 :: r) = w :: wordsSigns r
  | [], _ => by
    rw [List.nil_append]
    exact wordsSigns.eq_2 r
  | c :: w, h => by
    have ih := words_word r w (fun x hx => h x (List.mem_cons_of_mem _ hx))
    rw [List.cons_append, wordsSigns.eq_3 _ _ (fun e => h c (List.mem_cons_self ..) e), ih]
def headRest : List Char := headChars.1.drop 77
theorem head_cut : headChars.1 = headChars.1.take 7 ++ Char.ofNat 32 :: ((headChars.1.drop 8).take 64 ++ Char.ofNat 32 :: ((headChars.1.drop 73).take 3 ++ Char.ofNat 32 :: headRest)) := by kernel_rfl
theorem no_space (l : List Char) (h : l.all (fun c => c != Char.ofNat 32) = true) : ∀ c ∈ l, c ≠ Char.ofNat 32 := fun c hc => by simpa using List.all_eq_true.1 h c hc
theorem head_words : behindMainWord (wordsSigns headChars.1) = "cut".toList :: wordsSigns headRest := by
  rw [head_cut, words_word _ _ (no_space _ (by kernel_rfl)), words_word _ _ (no_space _ (by kernel_rfl)), words_word _ _ (no_space _ (by kernel_rfl))]
  generalize wordsSigns headRest = z
  kernel_rfl
theorem prog_words : behindMainWord (wordsSigns Try.prog.initOrder.toList) = "cut".toList :: wordsSigns headRest := by rw [headChars.2, head_words]
theorem make_of {P : Program} {r : List (List Char)} (h : behindMainWord (wordsSigns P.initOrder.toList) = "cut".toList :: r) : (P.make == some Make.cut) = true := by
  unfold Program.make; rw [h]; kernel_rfl
theorem lifts_of {P : Program} {r : List (List Char)} (h : behindMainWord (wordsSigns P.initOrder.toList) = "cut".toList :: r) : (false == P.liftsFinal) = true := by
  unfold Program.liftsFinal Program.headLifts; rw [h]; kernel_rfl
theorem enter_of {P : Program} {r : List (List Char)} (h : behindMainWord (wordsSigns P.initOrder.toList) = "cut".toList :: r) (h1 : P.laysLater = false) (h2 : P.bearsReflect = false) (h3 : P.doorFits [] = true) : P.mayEnter = true := by
  have e : stripLifts liftWords ("cut".toList :: r) = ([], "cut".toList :: r) := by kernel_rfl
  unfold Program.mayEnter
  rw [h]
  dsimp only
  rw [e, h1, h2, h3]
  exact (by kernel_rfl : (_ : Bool) = true)
theorem prog_make : (Try.prog.make == some Make.cut) = true := make_of prog_words
theorem prog_lifts : (false == Try.prog.liftsFinal) = true := lifts_of prog_words
theorem prog_enter : Try.prog.mayEnter = true := enter_of prog_words (by kernel_rfl) (by kernel_rfl) (by kernel_rfl)
theorem bt {a b : Bool} (ha : a = true) (hb : b = true) : (a && b) = true := by rw [ha, hb]; rfl
end Go.Proofs.Ytkekkbbdhdamjaa
