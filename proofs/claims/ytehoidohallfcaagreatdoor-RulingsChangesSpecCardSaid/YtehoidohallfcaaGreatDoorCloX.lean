/- What the laws' functions come to: the closure's parts (the whole outgrows the kernel's memory). -/
import Derived.Test.YtehoidohallfcaaGreatDoorRowX
namespace Go.Proofs.YtehoidohallfcaaGreatDoor
open Go
def inF (P : Program) (g : FuncId) : Option String := (P.funcs[g]?).bind fun fn => if fn.ours || fn.body.isNone || fn.name == "runtime.NumGoroutine" then some fn.name else none
def glF (P : Program) (g : FuncId) : List Nat := ((P.funcs[g]?).bind (·.body)).elim [] Code.globalsNamed
def erF (P : Program) (g : FuncId) : Option String := (P.funcs[g]?).bind fun fn => if fn.body.isNone then entryReads.lookup fn.name else none
def tl_0 : List FuncId := [9, 23, 24, 25, 42, 60, 98, 67, 105, 142, 229, 302, 303, 304, 308, 307, 309, 305, 306, 310]
def tl_1 : List FuncId := [311, 312, 313, 314, 315, 316, 317, 143, 230, 318, 319, 320, 146, 235, 107, 65, 236, 237, 68, 238]
def tl_2 : List FuncId := [239, 240, 321, 322, 231, 41, 329, 383, 175, 384, 323, 324, 234, 330, 378, 442, 377, 211, 297, 332]
def tl_3 : List FuncId := [120, 173, 174, 386, 444, 445, 509, 446, 262, 263, 447, 510, 511, 563, 448, 449, 450, 451, 379, 54]
def tl_4 : List FuncId := [82, 325, 326, 380, 443, 381, 327, 328, 382, 144, 232, 331, 385, 145, 233, 333, 387, 452, 334, 335]
def tl_5 : List FuncId := [336, 388, 389, 390, 106, 147, 148, 126, 178, 251, 252, 340, 392, 453, 269, 345, 270, 346, 271, 179]
def tl_6 : List FuncId := [273, 272, 347, 180, 274, 348, 349, 399, 400, 401, 350, 402, 458, 514, 564, 565, 515, 566, 516, 567]
def tl_7 : List FuncId := [517, 568, 518, 519, 520, 403, 127, 181, 275, 351, 352, 404, 459, 460, 461, 462, 521, 522, 523, 524]
def tl_8 : List FuncId := [525, 526, 527, 528, 529, 530, 405, 406, 81, 121, 407, 463, 464, 531, 569, 353, 408, 43, 61, 183]
def tl_9 : List FuncId := [185, 184, 276, 354, 277, 355, 409, 465, 410, 466, 356, 357, 358, 411, 435, 359, 278, 279, 280, 360]
def tl_10 : List FuncId := [182, 186, 281, 282, 283, 79, 119, 165, 166, 261, 167, 168, 264, 265, 344, 169, 170, 171, 172, 99]
def tl_11 : List FuncId := [128, 187, 129, 130, 188, 131, 141, 100, 101, 132, 133, 189, 284, 361, 413, 469, 470, 474, 471, 472]
def tl_12 : List FuncId := [473, 475, 477, 478, 476, 479, 480, 481, 482, 483, 412, 467, 532, 468, 533, 535, 534, 536, 537, 414]
def tl_13 : List FuncId := [484, 538, 570, 571, 572, 539, 485, 540, 285, 362, 415, 66, 103, 140, 228, 104, 486, 541, 573, 542]
def tl_14 : List FuncId := [574, 590, 543, 544, 545, 487, 546, 547, 416, 488, 440, 548, 549, 492, 554, 286, 363, 417, 418, 489]
def tl_15 : List FuncId := [550, 500, 551, 552, 575, 577, 576, 591, 592, 608, 578, 609, 618, 627, 619, 628, 620, 629, 630, 639]
def tl_16 : List FuncId := [457, 512, 513, 621, 631, 640, 622, 632, 633, 623, 635, 634, 624, 636, 625, 637, 641, 642, 643, 375]
def tl_17 : List FuncId := [441, 508, 638, 644, 376, 626, 495, 556, 593, 594, 423, 499, 595, 610, 504, 611, 596, 597, 366, 420]
def tl_18 : List FuncId := [491, 295, 373, 493, 494, 555, 198, 221, 202, 205, 208, 212, 298, 218, 223, 299, 300, 301, 287, 364]
def tl_19 : List FuncId := [419, 490, 553, 288, 365, 421, 424, 501, 557, 502, 558, 559, 560, 561, 579, 580, 581, 582, 583, 598]
def tl_20 : List FuncId := [612, 613, 599, 614, 600, 615, 601, 616, 602, 603, 617, 604, 584, 605, 606, 585, 586, 588, 587, 607]
def tl_21 : List FuncId := [503, 562, 589, 422, 496, 497, 498, 289, 367, 425, 426, 427, 428, 429, 430, 431, 432, 134, 190, 290]
def tl_22 : List FuncId := [292, 368, 369, 433, 505, 434, 506, 507, 70, 108, 109, 149, 241, 242, 337, 243, 244, 338, 339, 391]
def tl_23 : List FuncId := [245, 246, 247, 248, 110, 111, 112, 370, 436, 291, 293, 294, 371, 372, 437, 438, 439, 135, 191, 192]
def tl_24 : List FuncId := [136, 193, 44, 29, 45, 62, 63, 102, 137, 194, 138, 139, 195, 197, 196, 296, 374, 199, 200, 201]
def tl_25 : List FuncId := [203, 204, 206, 207, 209, 210, 213, 214, 215, 216, 217, 219, 220, 222, 224, 225, 226, 227, 64, 46]
def tl_26 : List FuncId := [69, 11, 27, 47, 71, 113, 150, 151, 153, 152, 249, 154, 155, 156, 157, 158, 159, 250, 160, 87]
def tl_27 : List FuncId := [114, 161, 162, 253, 341, 393, 394, 454, 455, 395, 396, 456, 163, 254, 342, 397, 343, 398, 255, 256]
def tl_28 : List FuncId := [48, 72, 28, 30, 49, 31, 32, 50, 33, 17, 13, 36, 52, 76, 39, 77, 117, 40, 59, 88]
def tl_29 : List FuncId := [89, 90, 91, 92, 93, 94, 95, 96, 97, 78, 118, 80, 21, 53, 55, 15, 22, 19, 10, 26]
def tl_L : List FuncId := tl_0 ++ tl_1 ++ tl_2 ++ tl_3 ++ tl_4 ++ tl_5 ++ tl_6 ++ tl_7 ++ tl_8 ++ tl_9 ++ tl_10 ++ tl_11 ++ tl_12 ++ tl_13 ++ tl_14 ++ tl_15 ++ tl_16 ++ tl_17 ++ tl_18 ++ tl_19 ++ tl_20 ++ tl_21 ++ tl_22 ++ tl_23 ++ tl_24 ++ tl_25 ++ tl_26 ++ tl_27 ++ tl_28 ++ tl_29
theorem tl_i0 : tl_0.filterMap (inF Tryz.prog) = [] := by kernel_rfl
theorem tl_g0 : tl_0.flatMap (glF Tryz.prog) = [] := by kernel_rfl
theorem tl_e0 : tl_0.filterMap (erF Tryz.prog) = [] := by kernel_rfl
theorem tl_i1 : tl_1.filterMap (inF Tryz.prog) = [] := by kernel_rfl
theorem tl_g1 : tl_1.flatMap (glF Tryz.prog) = [] := by kernel_rfl
theorem tl_e1 : tl_1.filterMap (erF Tryz.prog) = [] := by kernel_rfl
theorem tl_i2 : tl_2.filterMap (inF Tryz.prog) = [] := by kernel_rfl
theorem tl_g2 : tl_2.flatMap (glF Tryz.prog) = [] := by kernel_rfl
theorem tl_e2 : tl_2.filterMap (erF Tryz.prog) = [] := by kernel_rfl
theorem tl_i3 : tl_3.filterMap (inF Tryz.prog) = [] := by kernel_rfl
theorem tl_g3 : tl_3.flatMap (glF Tryz.prog) = [] := by kernel_rfl
theorem tl_e3 : tl_3.filterMap (erF Tryz.prog) = [] := by kernel_rfl
theorem tl_i4 : tl_4.filterMap (inF Tryz.prog) = [] := by kernel_rfl
theorem tl_g4 : tl_4.flatMap (glF Tryz.prog) = [] := by kernel_rfl
theorem tl_e4 : tl_4.filterMap (erF Tryz.prog) = [] := by kernel_rfl
theorem tl_i5 : tl_5.filterMap (inF Tryz.prog) = ["internal/bytealg.IndexByteString"] := by kernel_rfl
theorem tl_g5 : tl_5.flatMap (glF Tryz.prog) = [] := by kernel_rfl
theorem tl_e5 : tl_5.filterMap (erF Tryz.prog) = [] := by kernel_rfl
theorem tl_i6 : tl_6.filterMap (inF Tryz.prog) = [] := by kernel_rfl
theorem tl_g6 : tl_6.flatMap (glF Tryz.prog) = [] := by kernel_rfl
theorem tl_e6 : tl_6.filterMap (erF Tryz.prog) = [] := by kernel_rfl
theorem tl_i7 : tl_7.filterMap (inF Tryz.prog) = [] := by kernel_rfl
theorem tl_g7 : tl_7.flatMap (glF Tryz.prog) = [] := by kernel_rfl
theorem tl_e7 : tl_7.filterMap (erF Tryz.prog) = [] := by kernel_rfl
theorem tl_i8 : tl_8.filterMap (inF Tryz.prog) = ["slices.overlaps[[]int]"] := by kernel_rfl
theorem tl_g8 : tl_8.flatMap (glF Tryz.prog) = [] := by kernel_rfl
theorem tl_e8 : tl_8.filterMap (erF Tryz.prog) = [] := by kernel_rfl
theorem tl_i9 : tl_9.filterMap (inF Tryz.prog) = [] := by kernel_rfl
theorem tl_g9 : tl_9.flatMap (glF Tryz.prog) = [] := by kernel_rfl
theorem tl_e9 : tl_9.filterMap (erF Tryz.prog) = [] := by kernel_rfl
theorem tl_i10 : tl_10.filterMap (inF Tryz.prog) = [] := by kernel_rfl
theorem tl_g10 : tl_10.flatMap (glF Tryz.prog) = [] := by kernel_rfl
theorem tl_e10 : tl_10.filterMap (erF Tryz.prog) = [] := by kernel_rfl
theorem tl_i11 : tl_11.filterMap (inF Tryz.prog) = [] := by kernel_rfl
theorem tl_g11 : tl_11.flatMap (glF Tryz.prog) = [] := by kernel_rfl
theorem tl_e11 : tl_11.filterMap (erF Tryz.prog) = [] := by kernel_rfl
theorem tl_i12 : tl_12.filterMap (inF Tryz.prog) = [] := by kernel_rfl
theorem tl_g12 : tl_12.flatMap (glF Tryz.prog) = [] := by kernel_rfl
theorem tl_e12 : tl_12.filterMap (erF Tryz.prog) = [] := by kernel_rfl
theorem tl_i13 : tl_13.filterMap (inF Tryz.prog) = [] := by kernel_rfl
theorem tl_g13 : tl_13.flatMap (glF Tryz.prog) = [2, 5] := by kernel_rfl
theorem tl_e13 : tl_13.filterMap (erF Tryz.prog) = [] := by kernel_rfl
theorem tl_i14 : tl_14.filterMap (inF Tryz.prog) = [] := by kernel_rfl
theorem tl_g14 : tl_14.flatMap (glF Tryz.prog) = [] := by kernel_rfl
theorem tl_e14 : tl_14.filterMap (erF Tryz.prog) = [] := by kernel_rfl
theorem tl_i15 : tl_15.filterMap (inF Tryz.prog) = [] := by kernel_rfl
theorem tl_g15 : tl_15.flatMap (glF Tryz.prog) = [] := by kernel_rfl
theorem tl_e15 : tl_15.filterMap (erF Tryz.prog) = [] := by kernel_rfl
theorem tl_i16 : tl_16.filterMap (inF Tryz.prog) = [] := by kernel_rfl
theorem tl_g16 : tl_16.flatMap (glF Tryz.prog) = [3, 4] := by kernel_rfl
theorem tl_e16 : tl_16.filterMap (erF Tryz.prog) = [] := by kernel_rfl
theorem tl_i17 : tl_17.filterMap (inF Tryz.prog) = [] := by kernel_rfl
theorem tl_g17 : tl_17.flatMap (glF Tryz.prog) = [] := by kernel_rfl
theorem tl_e17 : tl_17.filterMap (erF Tryz.prog) = [] := by kernel_rfl
theorem tl_i18 : tl_18.filterMap (inF Tryz.prog) = [] := by kernel_rfl
theorem tl_g18 : tl_18.flatMap (glF Tryz.prog) = [] := by kernel_rfl
theorem tl_e18 : tl_18.filterMap (erF Tryz.prog) = [] := by kernel_rfl
theorem tl_i19 : tl_19.filterMap (inF Tryz.prog) = [] := by kernel_rfl
theorem tl_g19 : tl_19.flatMap (glF Tryz.prog) = [] := by kernel_rfl
theorem tl_e19 : tl_19.filterMap (erF Tryz.prog) = [] := by kernel_rfl
theorem tl_i20 : tl_20.filterMap (inF Tryz.prog) = [] := by kernel_rfl
theorem tl_g20 : tl_20.flatMap (glF Tryz.prog) = [] := by kernel_rfl
theorem tl_e20 : tl_20.filterMap (erF Tryz.prog) = [] := by kernel_rfl
theorem tl_i21 : tl_21.filterMap (inF Tryz.prog) = [] := by kernel_rfl
theorem tl_g21 : tl_21.flatMap (glF Tryz.prog) = [] := by kernel_rfl
theorem tl_e21 : tl_21.filterMap (erF Tryz.prog) = [] := by kernel_rfl
theorem tl_i22 : tl_22.filterMap (inF Tryz.prog) = [] := by kernel_rfl
theorem tl_g22 : tl_22.flatMap (glF Tryz.prog) = [] := by kernel_rfl
theorem tl_e22 : tl_22.filterMap (erF Tryz.prog) = [] := by kernel_rfl
theorem tl_i23 : tl_23.filterMap (inF Tryz.prog) = [] := by kernel_rfl
theorem tl_g23 : tl_23.flatMap (glF Tryz.prog) = [] := by kernel_rfl
theorem tl_e23 : tl_23.filterMap (erF Tryz.prog) = [] := by kernel_rfl
theorem tl_i24 : tl_24.filterMap (inF Tryz.prog) = [] := by kernel_rfl
theorem tl_g24 : tl_24.flatMap (glF Tryz.prog) = [] := by kernel_rfl
theorem tl_e24 : tl_24.filterMap (erF Tryz.prog) = [] := by kernel_rfl
theorem tl_i25 : tl_25.filterMap (inF Tryz.prog) = [] := by kernel_rfl
theorem tl_g25 : tl_25.flatMap (glF Tryz.prog) = [] := by kernel_rfl
theorem tl_e25 : tl_25.filterMap (erF Tryz.prog) = [] := by kernel_rfl
theorem tl_i26 : tl_26.filterMap (inF Tryz.prog) = [] := by kernel_rfl
theorem tl_g26 : tl_26.flatMap (glF Tryz.prog) = [] := by kernel_rfl
theorem tl_e26 : tl_26.filterMap (erF Tryz.prog) = [] := by kernel_rfl
theorem tl_i27 : tl_27.filterMap (inF Tryz.prog) = ["internal/abi.NoEscape", "internal/bytealg.MakeNoZero"] := by kernel_rfl
theorem tl_g27 : tl_27.flatMap (glF Tryz.prog) = [0] := by kernel_rfl
theorem tl_e27 : tl_27.filterMap (erF Tryz.prog) = [] := by kernel_rfl
theorem tl_i28 : tl_28.filterMap (inF Tryz.prog) = [] := by kernel_rfl
theorem tl_g28 : tl_28.flatMap (glF Tryz.prog) = [] := by kernel_rfl
theorem tl_e28 : tl_28.filterMap (erF Tryz.prog) = [] := by kernel_rfl
theorem tl_i29 : tl_29.filterMap (inF Tryz.prog) = [] := by kernel_rfl
theorem tl_g29 : tl_29.flatMap (glF Tryz.prog) = [] := by kernel_rfl
theorem tl_e29 : tl_29.filterMap (erF Tryz.prog) = [] := by kernel_rfl
theorem tl_in : tl_L.filterMap (inF Tryz.prog) = ["internal/bytealg.IndexByteString", "slices.overlaps[[]int]", "internal/abi.NoEscape", "internal/bytealg.MakeNoZero"] := by
 unfold tl_L
 simp only [List.filterMap_append, tl_i0, tl_i1, tl_i2, tl_i3, tl_i4, tl_i5, tl_i6, tl_i7, tl_i8, tl_i9, tl_i10, tl_i11, tl_i12, tl_i13, tl_i14, tl_i15, tl_i16, tl_i17, tl_i18, tl_i19, tl_i20, tl_i21, tl_i22, tl_i23, tl_i24, tl_i25, tl_i26, tl_i27, tl_i28, tl_i29]; rfl
theorem tl_gl : tl_L.flatMap (glF Tryz.prog) = [2, 5, 3, 4, 0] := by
 unfold tl_L
 simp only [List.flatMap_append, tl_g0, tl_g1, tl_g2, tl_g3, tl_g4, tl_g5, tl_g6, tl_g7, tl_g8, tl_g9, tl_g10, tl_g11, tl_g12, tl_g13, tl_g14, tl_g15, tl_g16, tl_g17, tl_g18, tl_g19, tl_g20, tl_g21, tl_g22, tl_g23, tl_g24, tl_g25, tl_g26, tl_g27, tl_g28, tl_g29]; rfl
theorem tl_er : tl_L.filterMap (erF Tryz.prog) = [] := by
 unfold tl_L
 simp only [List.filterMap_append, tl_e0, tl_e1, tl_e2, tl_e3, tl_e4, tl_e5, tl_e6, tl_e7, tl_e8, tl_e9, tl_e10, tl_e11, tl_e12, tl_e13, tl_e14, tl_e15, tl_e16, tl_e17, tl_e18, tl_e19, tl_e20, tl_e21, tl_e22, tl_e23, tl_e24, tl_e25, tl_e26, tl_e27, tl_e28, tl_e29]; rfl
open Go
def leadF (P : Program) (g : FuncId) : List FuncId := (P.funcs[g]?).elim [] P.leadsTo
def cloO (T : List (List FuncId)) : Nat → List FuncId → List FuncId → Option (List FuncId)
 | 0, _, seen => some seen.reverse
 | _ + 1, [], seen => some seen.reverse
 | n + 1, f :: todo, seen => if seen.contains f then cloO T n todo seen else match T[f]? with
  | none => none
  | some l => cloO T n (l ++ todo) (f :: seen)
theorem cloO_via {P : Program} {T : List (List FuncId)} (h : ∀ (g : Nat) (l : List FuncId), T[g]? = some l → leadF P g = l) : ∀ (n : Nat) (todo seen r : List FuncId), cloO T n todo seen = some r → P.closureVia n todo seen = r
 | 0, _, _, _, e => by simpa [cloO, Program.closureVia] using e
 | n + 1, [], _, _, e => by simpa [cloO, Program.closureVia] using e
 | n + 1, f :: todo, seen, r, e => by
  unfold cloO at e
  unfold Program.closureVia
  split at e
  · rename_i hs
    rw [if_pos hs]; exact cloO_via h n _ _ _ e
  · rename_i hs
    rw [if_neg hs]
    cases hT : T[f]? with
    | none => rw [hT] at e; cases e
    | some l =>
     rw [hT] at e
     have := h f l hT
     unfold leadF at this
     rw [this]
     exact cloO_via h n _ _ _ e
theorem clo_of_tbl {P : Program} {T : List (List FuncId)} (hsz : P.funcs.size = T.length) (ht : (List.range T.length).map (leadF P) = T) {f : FuncId} {r : List FuncId} (h : cloO T (1 + (T.map fun l => l.length + 1).sum) [f] [] = some r) : P.closure f = r := by
 have hs : (P.funcs.toList.map fun g => (P.leadsTo g).length + 1) = T.map fun l => l.length + 1 := by
  rw [← ht, List.map_map]
  apply List.ext_getElem?
  intro k
  rw [List.getElem?_map, List.getElem?_map]
  by_cases hk : k < T.length
  · have hk2 : k < P.funcs.size := by omega
    rw [List.getElem?_range (by simpa using hk), Array.getElem?_toList, Array.getElem?_eq_getElem hk2]
    simp [leadF, Array.getElem?_eq_getElem hk2]
  · have hk2 : P.funcs.size ≤ k := by omega
    rw [Array.getElem?_toList, Array.getElem?_eq_none hk2, List.getElem?_eq_none (by rw [List.length_range]; omega)]
    rfl
 unfold Program.closure
 rw [hs]
 refine cloO_via (fun g l e => ?_) _ _ _ _ h
 have hg := (List.getElem?_eq_some_iff.1 e).1
 rw [← ht, List.getElem?_map, List.getElem?_range (by simpa using hg)] at e
 simpa using e
def ld_0 : List (List FuncId) := [[], [], [1], [9, 10, 11, 12, 13, 14, 15, 16], [9, 10, 17, 18, 19], [9, 10, 11, 11, 11, 13, 13, 13, 15, 15, 16, 16], [9, 10, 11, 11, 11, 15, 17, 15], [9, 10, 17, 13, 13], [9, 10, 13, 11, 20, 21, 22, 22], [23, 24, 24, 24, 24, 25, 25, 11, 11, 11, 17, 17, 17, 11, 13, 13, 15, 15, 22, 22, 22, 22, 19], [26], [27, 28, 30, 29, 31, 32, 33], [34, 35], [11, 36], [12, 37], [], [22, 22], [13, 13, 32], [14, 14, 38], [], [27, 39, 40, 41], [], [], [], [], [42, 44, 43, 29, 45, 46], [], [47, 48, 48, 48, 48, 48, 48, 48, 48, 48], [29], [], [49], [], [50], [], [51], [], [52, 21, 21, 21, 53, 55, 54], [56, 57, 57, 57, 58, 58], [], []]
theorem ld_t0 : (List.range' 0 40).map (leadF Tryz.prog) = ld_0 := by kernel_rfl
def ld_1 : List (List FuncId) := [[59], [], [60], [61], [], [62, 64], [66, 67, 65, 68, 69, 70, 66], [71], [72, 43], [], [], [73, 74, 75], [27, 76, 39, 77, 40, 78, 41, 79, 80], [], [82], [53], [51, 83, 84, 86, 85], [], [], [47, 87, 43, 88, 89, 91, 92, 93, 94, 95, 96, 97], [98, 99, 100, 101], [], [63], [102], [63, 65], [], [67, 103, 104], [105, 106], [], [107, 65], [108, 109, 110, 111, 112], [113, 114], [], [115], [116, 116, 116], [], [], [117], [118], [120, 119]]
theorem ld_t1 : (List.range' 40 40).map (leadF Tryz.prog) = ld_1 := by kernel_rfl
def ld_2 : List (List FuncId) := [[81], [121], [], [], [122, 123, 85], [124, 22], [125], [], [], [90], [], [90], [], [], [], [], [], [], [67, 126, 127, 106], [128, 129, 131], [], [132, 133, 134, 135, 136, 136], [137, 138, 139], [140, 140, 140], [121, 121, 141], [142, 143, 144, 145], [65, 65, 146, 147, 148, 147], [], [], [120, 149], [104, 81, 141], [], [104], [150, 154, 157, 158, 87, 87, 156, 153, 156, 156, 156, 153, 152], [161, 162, 163], [164], [], [41], [], [165, 166, 167, 168, 169, 170, 171, 172, 119, 119]]
theorem ld_t2 : (List.range' 80 40).map (leadF Tryz.prog) = ld_2 := by kernel_rfl
def ld_3 : List (List FuncId) := [[173, 174], [175, 175], [176], [], [], [73, 177], [67, 178, 179, 180], [181, 183, 182, 186, 185, 185, 184], [187], [130], [188, 188, 188, 188, 188, 188], [121, 121, 141], [], [189], [127, 190], [191, 192], [193], [194, 66], [], [195, 199, 203, 206, 209, 213, 216, 219, 222, 225, 226], [228, 43], [], [229], [230], [231, 232], [233, 234], [235, 236, 65, 68, 238, 239, 240], [107, 65], [], [241, 242, 243, 244, 245, 246, 247, 248, 149, 149], [151], [153, 153, 153, 152], [249], [], [155], [156, 153, 153, 153, 152], [], [153, 152], [159, 160], [250]]
theorem ld_t3 : (List.range' 120 40).map (leadF Tryz.prog) = ld_3 := by kernel_rfl
def ld_4 : List (List FuncId) := [[], [251, 252], [253], [254, 255, 255, 255, 256], [257, 258, 258, 259, 259, 259, 259, 260, 259], [], [261, 261], [262, 263], [264, 264, 264, 265], [], [], [], [], [], [], [], [], [266, 266, 267, 268], [251, 269, 269, 270, 270, 271, 270, 270], [273, 272], [274], [67, 275], [82], [185, 184], [276, 276, 277, 278, 279, 280], [], [281, 282, 283, 282, 282, 79, 81], [], [], [67, 284, 285, 286, 287, 288, 289], [66, 290, 292, 291, 293], [], [110], [], [67, 295], [197, 196], [296], [198], [221], [200, 196]]
theorem ld_t4 : (List.range' 160 40).map (leadF Tryz.prog) = ld_4 := by kernel_rfl
def ld_5 : List (List FuncId) := [[202, 201], [], [221], [204, 196], [205, 201], [], [207, 196], [208], [], [210, 196], [212, 211, 65], [297], [298], [214, 215], [], [], [217, 214], [218], [], [220, 214], [221, 221], [], [224, 223], [299, 300, 301], [], [224, 223], [227, 196], [], [], [302, 303, 304, 308, 307, 309, 305, 306, 310, 311, 312, 313, 314, 315, 316, 317, 313, 313], [318, 320, 321, 322, 323, 325, 327], [41, 329], [330, 331, 331, 332], [232, 333, 334, 333, 335, 336, 41, 332], [330, 329], [107, 65], [237, 237], [], [], []]
theorem ld_t5 : (List.range' 200 40).map (leadF Tryz.prog) = ld_5 := by kernel_rfl
def ld_6 : List (List FuncId) := [[], [], [337, 337], [262, 263], [338, 338, 338, 339], [], [], [], [], [], [], [252, 252], [340], [341], [342, 343], [342], [], [], [], [], [], [], [120], [], [265], [344, 344, 344], [], [], [], [251, 345], [346], [270, 270], [347], [], [348, 349, 350], [351, 352, 353], [354], [355, 355, 355, 356, 357, 356, 358, 359, 359, 356, 359, 359, 359], [], []]
theorem ld_t6 : (List.range' 240 40).map (leadF Tryz.prog) = ld_6 := by kernel_rfl
def ld_7 : List (List FuncId) := [[360], [354], [], [], [361, 126], [362], [363], [364], [365, 366, 65], [367], [], [], [368], [294], [371, 372], [373, 43], [374], [], [221], [221], [375, 376], [375, 376], [], [], [], [], [], [], [], [], [], [], [], [], [], [], [], [313], [319], []]
theorem ld_t7 : (List.range' 280 40).map (leadF Tryz.prog) = ld_7 := by kernel_rfl
def ld_8 : List (List FuncId) := [[229, 146, 319], [319], [231], [324], [234, 378, 377, 379, 54], [326, 319], [380, 381], [328, 319], [382], [383, 384, 384], [231, 65], [385], [120, 386], [331, 387, 377], [], [], [333, 388, 333, 389, 390, 333, 65], [], [339], [391, 391, 391], [392], [393, 394, 395, 396], [397], [398], [], [], [], [], [67, 178], [399], [402, 403, 401, 41, 350], [], [330, 404, 405, 406, 407], [408, 43], [], [409, 410], [], [409, 65], [409, 411], [401]]
theorem ld_t8 : (List.range' 320 40).map (leadF Tryz.prog) = ld_8 := by kernel_rfl
def ld_9 : List (List FuncId) := [[], [67, 413, 412, 414], [415, 416], [417, 418], [415, 419, 415, 420, 65], [421, 422], [423], [424, 425, 65, 365, 426, 427, 428, 429, 431], [369, 370], [433, 66, 434, 41, 435, 70], [436, 108], [], [437, 438, 439], [], [], [440], [441], [211, 332], [442], [65], [443], [], [443], [175, 175], [], [], [444, 445, 446, 447, 448, 449, 383, 450, 451, 386, 386], [452], [], [], [], [], [453], [], [174, 454, 455], [], [456, 457], [], [], [400]]
theorem ld_t9 : (List.range' 360 40).map (leadF Tryz.prog) = ld_9 := by kernel_rfl
def ld_10 : List (List FuncId) := [[41, 401], [346], [458, 403, 401], [], [459], [], [81], [463, 464], [], [465, 82], [466, 466, 65], [41, 435, 65, 65], [467, 468], [469, 472, 473, 477, 476, 479, 480, 481, 482, 475, 471, 471, 471, 471, 474], [484, 485, 484], [66, 486, 487], [488], [415, 416], [489, 65], [490], [491, 493, 492], [424, 495], [496, 497, 498, 498], [499], [500, 501, 495, 502, 503], [504], [], [], [65], [430], [366], [432], [424, 497], [67, 505], [506], [], [], [121], [121], [81]]
theorem ld_t10 : (List.range' 400 40).map (leadF Tryz.prog) = ld_10 := by kernel_rfl
def ld_11 : List (List FuncId) := [[401], [508], [], [], [383], [509, 509], [262, 263], [510, 510, 510, 511], [], [383, 383, 383], [383, 383], [383, 383, 383, 383], [], [], [], [], [], [512, 513], [514, 515, 516, 517, 518, 519, 520], [460, 461, 462, 461], [], [], [521, 522, 523, 524, 525, 526, 527, 528, 529], [], [531], [410], [41, 332], [532], [533, 536, 537], [470, 471], [474], [], [474], [475, 471, 474], [], [], [474], [475, 478, 474], [474], [474]]
theorem ld_t11 : (List.range' 440 40).map (leadF Tryz.prog) = ld_11 := by kernel_rfl
def ld_12 : List (List FuncId) := [[475, 475, 471, 471, 471, 474], [474], [475, 475, 471, 483, 475, 483, 475, 471, 471, 475, 474], [474], [538, 539, 539], [540], [541, 542, 543, 541, 544, 541, 541, 541, 541, 541, 545], [546], [140, 440, 548, 492], [550, 551, 552], [553], [488, 295], [554], [494], [555, 198, 202, 205, 208, 212, 211, 65, 218, 221, 221, 221, 221, 223], [556], [500, 501, 503, 495], [501, 503], [], [], [488], [488, 557], [558], [562, 562], [556], [67, 184], [378, 377, 507, 82, 65, 435, 65], [378, 377, 65], [], [383, 383], [511], [563, 563, 563], [], [], [564, 565], [566], [567, 564], [568, 564], [], [566]]
theorem ld_t12 : (List.range' 480 40).map (leadF Tryz.prog) = ld_12 := by kernel_rfl
def ld_13 : List (List FuncId) := [[], [], [], [], [], [], [], [], [], [530], [], [569, 569, 569], [532], [535, 534], [], [], [534], [534], [570, 571, 571, 571, 571, 572, 572], [], [], [573], [574], [574], [], [], [547, 104], [], [549], [140, 140, 140], [488, 500], [], [575], [], [], [], [], [178], [559, 560, 272, 561], [578]]
theorem ld_t13 : (List.range' 520 40).map (leadF Tryz.prog) = ld_13 := by kernel_rfl
def ld_14 : List (List FuncId) := [[], [579, 495, 580, 581, 584, 584, 585, 586, 588, 587], [589, 43], [383], [], [], [401], [], [], [], [], [], [571, 571, 571], [], [590], [577, 576], [], [576, 591, 593, 596, 597, 576], [488], [500, 178], [], [582, 583], [], [598, 599, 600, 601, 602, 603, 495, 604, 604], [605], [], [], [607], [583], [], [], [592, 576, 577], [608, 609], [495, 594, 576, 595, 576, 577], [423], [610, 611], [495, 576], [366, 576, 420, 576], [612, 613], [614, 612]]
theorem ld_t14 : (List.range' 560 40).map (leadF Tryz.prog) = ld_14 := by kernel_rfl
def ld_15 : List (List FuncId) := [[615, 612], [616, 612], [401], [617, 612], [], [606], [41, 401], [], [578, 500], [618, 619, 620, 621, 622, 623, 624, 625, 626, 495, 41, 495], [500, 504], [], [401], [], [401], [], [346], [401], [627, 627], [627, 628], [629, 629, 630, 627], [630, 631, 630, 630, 627], [632, 633, 627, 628], [635, 634], [636, 634], [637, 638, 628], [637, 628, 627], [], [], [630], [639], [640], [], [], [630, 630, 627, 627], [], [], [641, 642, 643, 627], [375, 644, 376, 441], [457]]
theorem ld_t15 : (List.range' 600 40).map (leadF Tryz.prog) = ld_15 := by kernel_rfl
def ld_16 : List (List FuncId) := [[], [], [], [375, 441, 377], [642], [], [], [], [], [], [], [], [], [], [], [], [], [], [], [], [], [592, 65], [664, 664, 665, 666], [664], [], [579, 667, 667, 495, 580, 583, 586], [610, 668], [], [], [], [], [], [], [], [], [], [], []]
theorem ld_t16 : (List.range' 640 38).map (leadF Tryz.prog) = ld_16 := by kernel_rfl
def ld_L : List (List FuncId) := ld_0 ++ ld_1 ++ ld_2 ++ ld_3 ++ ld_4 ++ ld_5 ++ ld_6 ++ ld_7 ++ ld_8 ++ ld_9 ++ ld_10 ++ ld_11 ++ ld_12 ++ ld_13 ++ ld_14 ++ ld_15 ++ ld_16
theorem ld_len : ld_L.length = 678 := by kernel_rfl
theorem ld_size : Tryz.prog.funcs.size = ld_L.length := by kernel_rfl
theorem ld_rng : List.range 678 = List.range' 0 40 ++ List.range' 40 40 ++ List.range' 80 40 ++ List.range' 120 40 ++ List.range' 160 40 ++ List.range' 200 40 ++ List.range' 240 40 ++ List.range' 280 40 ++ List.range' 320 40 ++ List.range' 360 40 ++ List.range' 400 40 ++ List.range' 440 40 ++ List.range' 480 40 ++ List.range' 520 40 ++ List.range' 560 40 ++ List.range' 600 40 ++ List.range' 640 38 := by kernel_rfl
theorem ld_all : (List.range ld_L.length).map (leadF Tryz.prog) = ld_L := by
 rw [ld_len, ld_rng]
 simp only [List.map_append, ld_t0, ld_t1, ld_t2, ld_t3, ld_t4, ld_t5, ld_t6, ld_t7, ld_t8, ld_t9, ld_t10, ld_t11, ld_t12, ld_t13, ld_t14, ld_t15, ld_t16]
 rfl
end Go.Proofs.YtehoidohallfcaaGreatDoor
