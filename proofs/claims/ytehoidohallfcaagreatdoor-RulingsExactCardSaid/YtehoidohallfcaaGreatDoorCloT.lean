/- What the laws' functions come to: the closure's parts (the whole outgrows the kernel's memory). -/
import Derived.Test.YtehoidohallfcaaGreatDoorRowX
import Derived.JoinedOf
namespace Go.Proofs.YtehoidohallfcaaGreatDoor
open Go
def inF (P : Program) (g : FuncId) : Option String := (P.funcs[g]?).bind fun fn => if fn.ours || fn.body.isNone || fn.name == "runtime.NumGoroutine" then some fn.name else none
def glF (P : Program) (g : FuncId) : List Nat := ((P.funcs[g]?).bind (·.body)).elim [] Code.globalsNamed
def erF (P : Program) (g : FuncId) : Option String := (P.funcs[g]?).bind fun fn => if fn.body.isNone then entryReads.lookup fn.name else none
def tl_0 : List FuncId := [9, 23, 24, 25, 42, 60, 98, 67, 105, 142, 229, 302, 303, 304, 308, 307, 309, 305, 306, 310]
def tl_1 : List FuncId := [311, 312, 313, 314, 315, 316, 317, 143, 230, 318, 319, 320, 146, 235, 107, 65, 236, 237, 68, 238]
def tl_2 : List FuncId := [239, 240, 321, 322, 231, 41, 329, 383, 175, 384, 323, 324, 234, 330, 378, 442, 377, 211, 297, 332]
def tl_3 : List FuncId := [120, 173, 174, 386, 444, 445, 509, 446, 262, 263, 447, 510, 511, 563, 448, 449, 450, 451, 379, 54]
def tl_4 : List FuncId := [82, 325, 326, 380, 443, 381, 327, 328, 382, 144, 232, 331, 385, 145, 233, 333, 387, 452, 334, 335]
def tl_5 : List FuncId := [336, 388, 389, 390, 106, 147, 148, 126, 178, 251, 252, 340, 392, 453, 269, 345, 270, 346, 271, 179]
def tl_6 : List FuncId := [273, 272, 347, 180, 274, 348, 349, 399, 400, 401, 350, 402, 458, 514, 564, 565, 515, 566, 516, 567]
def tl_7 : List FuncId := [517, 568, 518, 519, 520, 403, 127, 181, 275, 351, 352, 404, 459, 460, 461, 462, 521, 522, 523, 524]
def tl_8 : List FuncId := [525, 526, 527, 528, 529, 530, 405, 406, 81, 121, 407, 463, 464, 531, 569, 353, 408, 43, 61, 183]
def tl_9 : List FuncId := [185, 184, 276, 354, 277, 355, 409, 465, 410, 466, 356, 357, 358, 411, 435, 359, 278, 279, 280, 360]
def tl_10 : List FuncId := [182, 186, 281, 282, 283, 79, 119, 165, 166, 261, 167, 168, 264, 265, 344, 169, 170, 171, 172, 99]
def tl_11 : List FuncId := [128, 187, 129, 130, 188, 131, 141, 100, 101, 132, 133, 189, 284, 361, 413, 469, 470, 474, 471, 472]
def tl_12 : List FuncId := [473, 475, 477, 478, 476, 479, 480, 481, 482, 483, 412, 467, 532, 468, 533, 535, 534, 536, 537, 414]
def tl_13 : List FuncId := [484, 538, 570, 571, 572, 539, 485, 540, 285, 362, 415, 66, 103, 140, 228, 104, 486, 541, 573, 542]
def tl_14 : List FuncId := [574, 590, 543, 544, 545, 487, 546, 547, 416, 488, 440, 548, 549, 492, 554, 286, 363, 417, 418, 489]
def tl_15 : List FuncId := [550, 500, 551, 552, 575, 577, 576, 591, 592, 608, 578, 609, 618, 627, 619, 628, 620, 629, 630, 639]
def tl_16 : List FuncId := [457, 512, 513, 621, 631, 640, 622, 632, 633, 623, 635, 634, 624, 636, 625, 637, 641, 642, 643, 375]
def tl_17 : List FuncId := [441, 508, 638, 644, 376, 626, 495, 556, 593, 594, 423, 499, 595, 610, 504, 611, 596, 597, 366, 420]
def tl_18 : List FuncId := [491, 295, 373, 493, 494, 555, 198, 221, 202, 205, 208, 212, 298, 218, 223, 299, 300, 301, 287, 364]
def tl_19 : List FuncId := [419, 490, 553, 288, 365, 421, 424, 501, 557, 502, 558, 559, 560, 561, 579, 580, 581, 582, 583, 598]
def tl_20 : List FuncId := [612, 613, 599, 614, 600, 615, 601, 616, 602, 603, 617, 604, 584, 605, 606, 585, 586, 588, 587, 607]
def tl_21 : List FuncId := [503, 562, 589, 422, 496, 497, 498, 289, 367, 425, 426, 427, 428, 429, 430, 431, 432, 134, 190, 290]
def tl_22 : List FuncId := [292, 368, 369, 433, 505, 434, 506, 507, 70, 108, 109, 149, 241, 242, 337, 243, 244, 338, 339, 391]
def tl_23 : List FuncId := [245, 246, 247, 248, 110, 111, 112, 370, 436, 291, 293, 294, 371, 372, 437, 438, 439, 135, 191, 192]
def tl_24 : List FuncId := [136, 193, 44, 29, 45, 62, 63, 102, 137, 194, 138, 139, 195, 197, 196, 296, 374, 199, 200, 201]
def tl_25 : List FuncId := [203, 204, 206, 207, 209, 210, 213, 214, 215, 216, 217, 219, 220, 222, 224, 225, 226, 227, 64, 46]
def tl_26 : List FuncId := [69, 11, 27, 47, 71, 113, 150, 151, 153, 152, 249, 154, 155, 156, 157, 158, 159, 250, 160, 87]
def tl_27 : List FuncId := [114, 161, 162, 253, 341, 393, 394, 454, 455, 395, 396, 456, 163, 254, 342, 397, 343, 398, 255, 256]
def tl_28 : List FuncId := [48, 72, 28, 30, 49, 31, 32, 50, 33, 17, 13, 36, 52, 76, 39, 77, 117, 40, 59, 88]
def tl_29 : List FuncId := [89, 90, 91, 92, 93, 94, 95, 96, 97, 78, 118, 80, 21, 53, 55, 15, 22, 19, 10, 26]
def tl_L : List FuncId := tl_0 ++ tl_1 ++ tl_2 ++ tl_3 ++ tl_4 ++ tl_5 ++ tl_6 ++ tl_7 ++ tl_8 ++ tl_9 ++ tl_10 ++ tl_11 ++ tl_12 ++ tl_13 ++ tl_14 ++ tl_15 ++ tl_16 ++ tl_17 ++ tl_18 ++ tl_19 ++ tl_20 ++ tl_21 ++ tl_22 ++ tl_23 ++ tl_24 ++ tl_25 ++ tl_26 ++ tl_27 ++ tl_28 ++ tl_29
theorem tl_i0 : tl_0.filterMap (inF Tryz.prog) = [] := by kernel_rfl
theorem tl_g0 : tl_0.flatMap (glF Tryz.prog) = [] := by kernel_rfl
theorem tl_e0 : tl_0.filterMap (erF Tryz.prog) = [] := by kernel_rfl
theorem tl_i1 : tl_1.filterMap (inF Tryz.prog) = [] := by kernel_rfl
theorem tl_g1 : tl_1.flatMap (glF Tryz.prog) = [] := by kernel_rfl
theorem tl_e1 : tl_1.filterMap (erF Tryz.prog) = [] := by kernel_rfl
theorem tl_i2 : tl_2.filterMap (inF Tryz.prog) = [] := by kernel_rfl
theorem tl_g2 : tl_2.flatMap (glF Tryz.prog) = [] := by kernel_rfl
theorem tl_e2 : tl_2.filterMap (erF Tryz.prog) = [] := by kernel_rfl
theorem tl_i3 : tl_3.filterMap (inF Tryz.prog) = [] := by kernel_rfl
theorem tl_g3 : tl_3.flatMap (glF Tryz.prog) = [] := by kernel_rfl
theorem tl_e3 : tl_3.filterMap (erF Tryz.prog) = [] := by kernel_rfl
theorem tl_i4 : tl_4.filterMap (inF Tryz.prog) = [] := by kernel_rfl
theorem tl_g4 : tl_4.flatMap (glF Tryz.prog) = [] := by kernel_rfl
theorem tl_e4 : tl_4.filterMap (erF Tryz.prog) = [] := by kernel_rfl
theorem tl_i5 : tl_5.filterMap (inF Tryz.prog) = ["internal/bytealg.IndexByteString"] := by kernel_rfl
theorem tl_g5 : tl_5.flatMap (glF Tryz.prog) = [] := by kernel_rfl
theorem tl_e5 : tl_5.filterMap (erF Tryz.prog) = [] := by kernel_rfl
theorem tl_i6 : tl_6.filterMap (inF Tryz.prog) = [] := by kernel_rfl
theorem tl_g6 : tl_6.flatMap (glF Tryz.prog) = [] := by kernel_rfl
theorem tl_e6 : tl_6.filterMap (erF Tryz.prog) = [] := by kernel_rfl
theorem tl_i7 : tl_7.filterMap (inF Tryz.prog) = [] := by kernel_rfl
theorem tl_g7 : tl_7.flatMap (glF Tryz.prog) = [] := by kernel_rfl
theorem tl_e7 : tl_7.filterMap (erF Tryz.prog) = [] := by kernel_rfl
theorem tl_i8 : tl_8.filterMap (inF Tryz.prog) = ["slices.overlaps[[]int]"] := by kernel_rfl
theorem tl_g8 : tl_8.flatMap (glF Tryz.prog) = [] := by kernel_rfl
theorem tl_e8 : tl_8.filterMap (erF Tryz.prog) = [] := by kernel_rfl
theorem tl_i9 : tl_9.filterMap (inF Tryz.prog) = [] := by kernel_rfl
theorem tl_g9 : tl_9.flatMap (glF Tryz.prog) = [] := by kernel_rfl
theorem tl_e9 : tl_9.filterMap (erF Tryz.prog) = [] := by kernel_rfl
theorem tl_i10 : tl_10.filterMap (inF Tryz.prog) = [] := by kernel_rfl
theorem tl_g10 : tl_10.flatMap (glF Tryz.prog) = [] := by kernel_rfl
theorem tl_e10 : tl_10.filterMap (erF Tryz.prog) = [] := by kernel_rfl
theorem tl_i11 : tl_11.filterMap (inF Tryz.prog) = [] := by kernel_rfl
theorem tl_g11 : tl_11.flatMap (glF Tryz.prog) = [] := by kernel_rfl
theorem tl_e11 : tl_11.filterMap (erF Tryz.prog) = [] := by kernel_rfl
theorem tl_i12 : tl_12.filterMap (inF Tryz.prog) = [] := by kernel_rfl
theorem tl_g12 : tl_12.flatMap (glF Tryz.prog) = [] := by kernel_rfl
theorem tl_e12 : tl_12.filterMap (erF Tryz.prog) = [] := by kernel_rfl
theorem tl_i13 : tl_13.filterMap (inF Tryz.prog) = [] := by kernel_rfl
theorem tl_g13 : tl_13.flatMap (glF Tryz.prog) = [2, 5] := by kernel_rfl
theorem tl_e13 : tl_13.filterMap (erF Tryz.prog) = [] := by kernel_rfl
theorem tl_i14 : tl_14.filterMap (inF Tryz.prog) = [] := by kernel_rfl
theorem tl_g14 : tl_14.flatMap (glF Tryz.prog) = [] := by kernel_rfl
theorem tl_e14 : tl_14.filterMap (erF Tryz.prog) = [] := by kernel_rfl
theorem tl_i15 : tl_15.filterMap (inF Tryz.prog) = [] := by kernel_rfl
theorem tl_g15 : tl_15.flatMap (glF Tryz.prog) = [] := by kernel_rfl
theorem tl_e15 : tl_15.filterMap (erF Tryz.prog) = [] := by kernel_rfl
theorem tl_i16 : tl_16.filterMap (inF Tryz.prog) = [] := by kernel_rfl
theorem tl_g16 : tl_16.flatMap (glF Tryz.prog) = [3, 4] := by kernel_rfl
theorem tl_e16 : tl_16.filterMap (erF Tryz.prog) = [] := by kernel_rfl
theorem tl_i17 : tl_17.filterMap (inF Tryz.prog) = [] := by kernel_rfl
theorem tl_g17 : tl_17.flatMap (glF Tryz.prog) = [] := by kernel_rfl
theorem tl_e17 : tl_17.filterMap (erF Tryz.prog) = [] := by kernel_rfl
theorem tl_i18 : tl_18.filterMap (inF Tryz.prog) = [] := by kernel_rfl
theorem tl_g18 : tl_18.flatMap (glF Tryz.prog) = [] := by kernel_rfl
theorem tl_e18 : tl_18.filterMap (erF Tryz.prog) = [] := by kernel_rfl
theorem tl_i19 : tl_19.filterMap (inF Tryz.prog) = [] := by kernel_rfl
theorem tl_g19 : tl_19.flatMap (glF Tryz.prog) = [] := by kernel_rfl
theorem tl_e19 : tl_19.filterMap (erF Tryz.prog) = [] := by kernel_rfl
theorem tl_i20 : tl_20.filterMap (inF Tryz.prog) = [] := by kernel_rfl
theorem tl_g20 : tl_20.flatMap (glF Tryz.prog) = [] := by kernel_rfl
theorem tl_e20 : tl_20.filterMap (erF Tryz.prog) = [] := by kernel_rfl
theorem tl_i21 : tl_21.filterMap (inF Tryz.prog) = [] := by kernel_rfl
theorem tl_g21 : tl_21.flatMap (glF Tryz.prog) = [] := by kernel_rfl
theorem tl_e21 : tl_21.filterMap (erF Tryz.prog) = [] := by kernel_rfl
theorem tl_i22 : tl_22.filterMap (inF Tryz.prog) = [] := by kernel_rfl
theorem tl_g22 : tl_22.flatMap (glF Tryz.prog) = [] := by kernel_rfl
theorem tl_e22 : tl_22.filterMap (erF Tryz.prog) = [] := by kernel_rfl
theorem tl_i23 : tl_23.filterMap (inF Tryz.prog) = [] := by kernel_rfl
theorem tl_g23 : tl_23.flatMap (glF Tryz.prog) = [] := by kernel_rfl
theorem tl_e23 : tl_23.filterMap (erF Tryz.prog) = [] := by kernel_rfl
theorem tl_i24 : tl_24.filterMap (inF Tryz.prog) = [] := by kernel_rfl
theorem tl_g24 : tl_24.flatMap (glF Tryz.prog) = [] := by kernel_rfl
theorem tl_e24 : tl_24.filterMap (erF Tryz.prog) = [] := by kernel_rfl
theorem tl_i25 : tl_25.filterMap (inF Tryz.prog) = [] := by kernel_rfl
theorem tl_g25 : tl_25.flatMap (glF Tryz.prog) = [] := by kernel_rfl
theorem tl_e25 : tl_25.filterMap (erF Tryz.prog) = [] := by kernel_rfl
theorem tl_i26 : tl_26.filterMap (inF Tryz.prog) = [] := by kernel_rfl
theorem tl_g26 : tl_26.flatMap (glF Tryz.prog) = [] := by kernel_rfl
theorem tl_e26 : tl_26.filterMap (erF Tryz.prog) = [] := by kernel_rfl
theorem tl_i27 : tl_27.filterMap (inF Tryz.prog) = ["internal/abi.NoEscape", "internal/bytealg.MakeNoZero"] := by kernel_rfl
theorem tl_g27 : tl_27.flatMap (glF Tryz.prog) = [0] := by kernel_rfl
theorem tl_e27 : tl_27.filterMap (erF Tryz.prog) = [] := by kernel_rfl
theorem tl_i28 : tl_28.filterMap (inF Tryz.prog) = [] := by kernel_rfl
theorem tl_g28 : tl_28.flatMap (glF Tryz.prog) = [] := by kernel_rfl
theorem tl_e28 : tl_28.filterMap (erF Tryz.prog) = [] := by kernel_rfl
theorem tl_i29 : tl_29.filterMap (inF Tryz.prog) = [] := by kernel_rfl
theorem tl_g29 : tl_29.flatMap (glF Tryz.prog) = [] := by kernel_rfl
theorem tl_e29 : tl_29.filterMap (erF Tryz.prog) = [] := by kernel_rfl
theorem tl_in : tl_L.filterMap (inF Tryz.prog) = ["internal/bytealg.IndexByteString", "slices.overlaps[[]int]", "internal/abi.NoEscape", "internal/bytealg.MakeNoZero"] := by
  unfold tl_L
  simp only [List.filterMap_append, tl_i0, tl_i1, tl_i2, tl_i3, tl_i4, tl_i5, tl_i6, tl_i7, tl_i8, tl_i9, tl_i10, tl_i11, tl_i12, tl_i13, tl_i14, tl_i15, tl_i16, tl_i17, tl_i18, tl_i19, tl_i20, tl_i21, tl_i22, tl_i23, tl_i24, tl_i25, tl_i26, tl_i27, tl_i28, tl_i29]; rfl
theorem tl_gl : tl_L.flatMap (glF Tryz.prog) = [2, 5, 3, 4, 0] := by
  unfold tl_L
  simp only [List.flatMap_append, tl_g0, tl_g1, tl_g2, tl_g3, tl_g4, tl_g5, tl_g6, tl_g7, tl_g8, tl_g9, tl_g10, tl_g11, tl_g12, tl_g13, tl_g14, tl_g15, tl_g16, tl_g17, tl_g18, tl_g19, tl_g20, tl_g21, tl_g22, tl_g23, tl_g24, tl_g25, tl_g26, tl_g27, tl_g28, tl_g29]; rfl
theorem tl_er : tl_L.filterMap (erF Tryz.prog) = [] := by
  unfold tl_L
  simp only [List.filterMap_append, tl_e0, tl_e1, tl_e2, tl_e3, tl_e4, tl_e5, tl_e6, tl_e7, tl_e8, tl_e9, tl_e10, tl_e11, tl_e12, tl_e13, tl_e14, tl_e15, tl_e16, tl_e17, tl_e18, tl_e19, tl_e20, tl_e21, tl_e22, tl_e23, tl_e24, tl_e25, tl_e26, tl_e27, tl_e28, tl_e29]; rfl
end Go.Proofs.YtehoidohallfcaaGreatDoor

