/- The closed facts of the program that the row of TopAnswers asks, each by itself. No conditions. -/
import Derived.Test.YtdjkdjepjahjfaaGreatDoorRows
import Derived.JoinedCond
import Derived.KernelRfl
import GoSem.ClaimSeven
set_option linter.unusedVariables false
namespace Go.Proofs.YtdjkdjepjahjfaaGreatDoor.topAnswers
open Go
theorem fct_clo : Tryz.prog.closure 4 = [4, 6, 12, 34, 80, 147, 239, 240, 349, 348, 350, 241, 242, 351, 352, 418, 419, 5, 26, 61, 62, 63, 64, 130, 148, 243, 150, 244, 353, 206, 312, 84, 159, 251, 250, 249, 355, 422, 205, 311, 402, 468, 403, 469, 309, 310, 77, 131, 207, 132, 65, 133, 208, 134, 66, 67, 54, 68, 27, 69, 70, 135, 137, 210, 215, 327, 221, 153, 246, 154, 247, 354, 420, 474, 475, 421, 476, 510, 477, 478, 511, 479, 313, 314, 315, 316, 317, 318, 319, 320, 321, 322, 323, 324, 325, 326, 211, 212, 213, 214, 216, 217, 218, 219, 220, 222, 138, 223, 328, 405, 404, 329, 406, 330, 331, 155, 248, 224, 136, 209, 139, 225, 333, 332, 123, 226, 180, 288, 334, 408, 407, 470, 335, 336, 337, 227, 228, 230, 231, 340, 410, 104, 177, 341, 411, 471, 81, 85, 149, 151, 152, 245, 343, 344, 414, 415, 401, 416, 302, 398, 460, 459, 157, 462, 158, 461, 464, 507, 533, 466, 508, 463, 342, 413, 412, 472, 345, 346, 229, 339, 338, 409, 232, 233, 71, 140, 234, 72, 73, 7, 8, 28, 29, 74, 31, 30, 47, 113, 187, 303, 189, 188, 304, 399, 465, 400, 467, 190, 191, 114, 75, 48, 115, 116, 141, 142, 143, 235, 117, 35, 82, 83, 156, 86, 160, 236, 105, 118, 192, 107, 179, 178, 287, 386, 193, 305, 87, 237, 161, 252, 203, 51, 238, 52, 119, 194, 195, 306, 196, 197, 307, 253, 198, 199, 200, 347, 167, 417, 473, 509, 108, 181, 76, 9, 11, 23, 10, 32, 33, 78, 144, 79, 145, 146, 110, 13, 36, 37, 88, 89, 162, 90, 163, 254, 255, 256, 257, 164, 259, 258, 91, 165, 166, 260, 261, 262, 263, 264, 38, 92, 93, 168, 169, 265, 266, 356, 267, 357, 358, 359, 360, 361, 362, 423, 39, 94, 95, 170, 268, 269, 270, 363, 424, 364, 425, 365, 426, 480, 512, 366, 271, 367, 368, 427, 387, 481, 513, 534, 369, 370, 374, 430, 487, 488, 489, 484, 490, 431, 428, 482, 432, 433, 491, 492, 514, 515, 429, 483, 485, 486, 371, 292, 272, 372, 373, 273, 291, 274, 375, 435, 434, 493, 516, 376, 436, 437, 438, 439, 377, 276, 275, 378, 440, 494, 517, 535, 518, 519, 520, 536, 379, 441, 495, 277, 171, 278, 279, 380, 381, 443, 497, 442, 496, 521, 280, 281, 382, 444, 282, 283, 383, 446, 499, 445, 498, 522, 384, 284, 285, 385, 447, 500, 501, 502, 523, 537, 538, 548, 560, 549, 524, 503, 525, 539, 531, 530, 547, 540, 526, 541, 550, 543, 553, 564, 544, 554, 555, 565, 542, 551, 561, 562, 552, 563, 527, 545, 556, 557, 566, 572, 575, 576, 577, 578, 567, 568, 573, 569, 574, 570, 546, 558, 559, 571, 529, 528, 504, 449, 448, 450, 505, 532, 40, 96, 172, 97, 99, 98, 126, 14, 16, 15, 41, 42, 100, 101, 173, 175, 174, 286, 102, 176, 43, 49, 50, 44, 58, 103, 121, 109, 201, 122, 45, 106, 111, 112, 183, 182, 120, 289, 300, 395, 456, 397, 290, 293, 294, 388, 451, 389, 452, 390, 185, 295, 392, 391, 453, 455, 454, 506, 393, 457, 394, 458, 296, 396, 297, 298, 299, 301, 184, 186, 17, 46, 18, 21, 24, 60, 22, 57, 59, 124, 125, 202, 308, 127, 129, 204, 128, 20, 55, 56, 25] := by kernel_rfl
theorem fct_lo0 : (List.range' 0 93).all (rowFine Tryz.prog) = true := by kernel_rfl
theorem fct_lo1 : (List.range' 93 93).all (rowFine Tryz.prog) = true := by kernel_rfl
theorem fct_lo2 : (List.range' 186 93).all (rowFine Tryz.prog) = true := by kernel_rfl
theorem fct_lo3 : (List.range' 279 93).all (rowFine Tryz.prog) = true := by kernel_rfl
theorem fct_lo4 : (List.range' 372 93).all (rowFine Tryz.prog) = true := by kernel_rfl
theorem fct_lo5 : (List.range' 465 93).all (rowFine Tryz.prog) = true := by kernel_rfl
theorem fct_lo6 : (List.range' 558 93).all (rowFine Tryz.prog) = true := by kernel_rfl
theorem fct_lo7 : (List.range' 651 92).all (rowFine Tryz.prog) = true := by kernel_rfl
theorem fct_lsz : Tryz.prog.types.size = 743 := by kernel_rfl
theorem fct_lrg : List.range 743 = List.range' 0 93 ++ List.range' 93 93 ++ List.range' 186 93 ++ List.range' 279 93 ++ List.range' 372 93 ++ List.range' 465 93 ++ List.range' 558 93 ++ List.range' 651 92 := by kernel_rfl
theorem fct_lgl : Tryz.prog.globals.all (fun g => decide (g.type < Tryz.prog.types.size)) = true := by kernel_rfl
theorem fct_lfn : Tryz.prog.funcs.all (fun f => f.params.all fun t => decide (t < Tryz.prog.types.size)) = true := by kernel_rfl
theorem fct_an {a b : Bool} (h : a = true) (k : b = true) : (a && b) = true := by rw [h, k]; rfl
theorem fct_al {α : Type} {p : α → Bool} {l m : List α} (h : l.all p = true) (k : m.all p = true) : (l ++ m).all p = true := by rw [List.all_append, h, k]; rfl
theorem fct_lall : (List.range Tryz.prog.types.size).all (rowFine Tryz.prog) = true := by
  rw [fct_lsz, fct_lrg]
  exact (fct_al (fct_al (fct_al (fct_al (fct_al (fct_al (fct_al fct_lo0 fct_lo1) fct_lo2) fct_lo3) fct_lo4) fct_lo5) fct_lo6) fct_lo7)
theorem fct_lo : laidOutB Tryz.prog = true := fct_an (fct_an fct_lall fct_lgl) fct_lfn
theorem fct_j1 : (Rows.topAnswersRow.wf (OpenSpec.ofChange (OpenSpec.ofChange Rows.topAnswersSpec).bare)) = true := by kernel_rfl
theorem fct_j2 : (laidOutB Tryz.prog) = true := fct_lo
theorem fct_j3 : (mapsRowed Tryz.prog) = true := by kernel_rfl
theorem fct_j4 : (Tryz.f4.params.all (Tryz.prog.readableRec ·)) = true := by kernel_rfl
theorem fct_j5 : (namedTie Tryz.prog Rows.topAnswersRow.named (OpenSpec.ofChange Rows.topAnswersSpec).bare.vars) = true := by kernel_rfl
theorem fct_j6 : ((Rows.topAnswersRow.stops == [])) = true := by kernel_rfl
theorem fct_j7 : ((Tryz.prog.stops == [])) = true := by kernel_rfl
theorem fct_j8 : ((Rows.topAnswersRow.knobs == [])) = true := by kernel_rfl
theorem fct_j9 : ((Tryz.prog.stopKnobs == [])) = true := by kernel_rfl
theorem fct_j10 : ((Rows.topAnswersRow.inPlace == Tryz.prog.inPlace 4)) = true := by
  unfold Program.inPlace
  rw [fct_clo]
  kernel_rfl
theorem fct_unf : Tryz.prog.unfollowed 4 = true := by
  unfold Program.unfollowed
  rw [fct_clo]
  kernel_rfl
theorem fct_j11 : ((Rows.topAnswersRow.unfollowed == Tryz.prog.unfollowed 4)) = true := by
  rw [fct_unf]
  rfl
theorem fct_j12 : ((Rows.topAnswersRow.recurses == Tryz.prog.recurses 4)) = true := by
  unfold Program.recurses
  rw [fct_unf]
  rfl
theorem fct_j13 : ((Rows.topAnswersRow.named == Tryz.prog.varsNamed 4)) = true := by
  unfold Program.varsNamed
  rw [fct_clo]
  kernel_rfl
theorem fct_j14 : ((Rows.topAnswersRow.maps == (Tryz.f4.params.toList ++ (OpenSpec.ofChange Rows.topAnswersSpec).bare.plain.varTypes Tryz.prog).any (Tryz.prog.mapsRec ·))) = true := by kernel_rfl
theorem fct_j15 : ((Rows.topAnswersRow.ifaces == (Tryz.f4.params.toList ++ (OpenSpec.ofChange Rows.topAnswersSpec).bare.plain.varTypes Tryz.prog).any (Tryz.prog.ifacesRec ·))) = true := by kernel_rfl
theorem fct_j16 : ((Rows.topAnswersRow.mapsOut == Tryz.prog.mapsAmong Tryz.f4.resultTypes.toList)) = true := by kernel_rfl
theorem fct_j17 : ((Rows.topAnswersRow.loops == (Tryz.f4.params.toList ++ (OpenSpec.ofChange Rows.topAnswersSpec).bare.plain.varTypes Tryz.prog).any (Tryz.prog.loopsFrom ·))) = true := by kernel_rfl
theorem fct_j18 : ((Rows.topAnswersRow.wideKeys == (Tryz.f4.params.toList ++ (OpenSpec.ofChange Rows.topAnswersSpec).bare.plain.varTypes Tryz.prog ++ Tryz.f4.resultTypes.toList).any (Tryz.prog.wideKeysFrom ·))) = true := by kernel_rfl
theorem fct_j19 : ((OpenSpec.ofChange Rows.topAnswersSpec).bare.vars.all (Tryz.prog.varReadable ·)) = true := by kernel_rfl
theorem fct_j20 : (Tryz.f4.resultTypes.all (fun t => Tryz.prog.readableRec t && decide (t < Tryz.prog.types.size))) = true := by kernel_rfl
theorem fct_j21 : ((Rows.topAnswersRow.ifacesOut == Tryz.f4.resultTypes.toList.any (Tryz.prog.ifacesRec ·))) = true := by kernel_rfl
theorem fct_j22 : ((Rows.topAnswersRow.loopsOut == Tryz.f4.resultTypes.toList.any (Tryz.prog.loopsFrom ·))) = true := by kernel_rfl
theorem fct_j23 : ((Rows.topAnswersRow.plainKeys == Tryz.prog.plainKeys)) = true := by kernel_rfl
theorem fct_j24 : (Rows.topAnswersRow.shortTexts.isNone) = true := by kernel_rfl
theorem fct_j25 : (Tryz.prog.stopsHeard) = true := by kernel_rfl
theorem fct_j26 : (Tryz.prog.mayEnter) = true := by kernel_rfl
theorem fct_j27 : ((Rows.topAnswersRow.lifted == Tryz.prog.liftsFinal)) = true := by kernel_rfl
theorem fct_j28 : ((Tryz.prog.make == some Rows.topAnswersRow.make)) = true := by kernel_rfl
theorem fct_j29 : ((Rows.topAnswersRow.kinds == (if Rows.topAnswersRow.domain.isEmpty then [] else Tryz.f4.params.toList.map fun t => match Tryz.prog.underlying t with | some (.int k) => some k | _ => none))) = true := by kernel_rfl
theorem fct_j30 : ((Rows.topAnswersRow.pinned == Rows.topAnswersRow.pinnedBy)) = true := by kernel_rfl
theorem fct_j31 : ((Rows.topAnswersRow.veiled == (Tryz.f4.params.toList ++ (OpenSpec.ofChange Rows.topAnswersSpec).bare.plain.varTypes Tryz.prog ++ Tryz.f4.resultTypes.toList).any (Tryz.prog.veiledRec ·))) = true := by kernel_rfl
theorem fct_j32 : (Rows.topAnswersRow.veiledFits Tryz.prog Tryz.f4.params.toList (Tryz.f4.params.toList ++ (OpenSpec.ofChange Rows.topAnswersSpec).bare.plain.varTypes Tryz.prog ++ Tryz.f4.resultTypes.toList)) = true := by kernel_rfl
set_option maxRecDepth 100000 in
theorem fct_jf : joinedFacts Tryz.prog 4 Tryz.f4 (OpenSpec.ofChange Rows.topAnswersSpec).bare Rows.topAnswersRow = true := (fct_an (fct_an (fct_an (fct_an (fct_an (fct_an (fct_an (fct_an (fct_an (fct_an (fct_an (fct_an (fct_an (fct_an (fct_an (fct_an (fct_an (fct_an (fct_an (fct_an (fct_an (fct_an (fct_an (fct_an (fct_an (fct_an (fct_an (fct_an (fct_an (fct_an (fct_an fct_j1 fct_j2) fct_j3) fct_j4) fct_j5) fct_j6) fct_j7) fct_j8) fct_j9) fct_j10) fct_j11) fct_j12) fct_j13) fct_j14) fct_j15) fct_j16) fct_j17) fct_j18) fct_j19) fct_j20) fct_j21) fct_j22) fct_j23) fct_j24) fct_j25) fct_j26) fct_j27) fct_j28) fct_j29) fct_j30) fct_j31) fct_j32)
theorem fct_afn : Tryz.prog.funcNamed "gatehouse/gatehousetop.TopAnswers" = some 4 := by kernel_rfl
theorem fct_inst : Tryz.f4.isInstance Tryz.prog Rows.topAnswersRow.origin Rows.topAnswersRow.targs := of_decide_eq_true (by kernel_rfl)
theorem fct_wrap : Tryz.f4.isWrapper Tryz.prog Rows.topAnswersRow.wrapper Rows.topAnswersRow.mainSum := by
  unfold Func.isWrapper
  first | (rw [if_pos (by decide +kernel)]; kernel_rfl) | (rw [if_neg (by decide +kernel)]; exact ⟨rfl, rfl⟩)
theorem fct_ngo : Tryz.prog.funcs.any Func.goes = false := by kernel_rfl
theorem fct_go_cl {P : Program} (h : P.funcs.any Func.goes = false) (L : List FuncId) : (L.any fun g => (P.funcs[g]?).any Func.goes) = false := by
  rw [List.any_eq_false]
  intro g _
  cases hg : P.funcs[g]? with
  | none => simp
  | some fn =>
    rw [Array.any_eq_false] at h
    obtain ⟨hi, he⟩ := Array.getElem?_eq_some_iff.1 hg
    have := h g hi
    rw [he] at this
    simpa using this
theorem fct_goes_no {P : Program} (h : P.funcs.any Func.goes = false) {f : FuncId} : P.goes f = false := by
  unfold Program.goes
  rw [fct_go_cl h, h, Bool.and_false]
  rfl
theorem fct_gb : false = Rows.topAnswersRow.goesBy Tryz.prog := by
  unfold OpenClaim.goesBy Program.goesAt Program.goesFrom
  rw [show Rows.topAnswersRow.func = "gatehouse/gatehousetop.TopAnswers" from rfl, show Rows.topAnswersRow.start = .entering from rfl, fct_afn]
  rw [Option.any_some, fct_goes_no fct_ngo]
  rfl
end Go.Proofs.YtdjkdjepjahjfaaGreatDoor.topAnswers
