/- The text of the law FnExactDecide. -/
import Derived.Test.YtahdgiaddhoaoaaSimC
import Derived.Test.YtahdgiaddhoaoaaProg

set_option maxRecDepth 100000
namespace Go.Sim
open Go.Proofs

def t15 (x0 x1 : V) (H0 : Heap) (Q : V → Heap → Prop) : Prop :=
  pBox 84 x0 H0 fun v0 H1 =>
  pLoad true 9 v0 H1 fun v2 =>
  pCall Try.prog 56 [v2, (V.int .i64 1048576)] H1 fun v3 H4 =>
  pBin EK.other BinOp.lss v3 (V.int .i64 0) H4 fun v5 =>
  cIf v5
    (pWk (List.length H0) [(V.bool true)] H4 fun xs6 H7 => (Q (nthV xs6 0) H7))
    (pCall Try.prog 93 [x1, v3] H4 fun v8 H9 =>
    pBin EK.other BinOp.lss v8 (V.int .i64 0) H9 fun v10 =>
    cIf v10
      (pWk (List.length H0) [(V.bool true)] H9 fun xs11 H12 => (Q (nthV xs11 0) H12))
      (pLoad true 9 v0 H9 fun v13 =>
      pCall Try.prog 58 [v13] H9 fun v14 H15 =>
      pCall Try.prog 95 [x1] H15 fun v16 H17 =>
      pCall Try.prog 94 [v14, v16] H17 fun v18 H19 =>
      pTup v18 0 fun v20 =>
      pTup v18 1 fun v21 =>
      pBox 29 (V.agg [(V.sl false 3 []), (V.int .i64 0), (V.int .i64 0), (V.int .i64 0), (V.sl false 1 []), (V.bool false), (V.sl false 5 []), (V.sl false 1 []), (V.sl false 1 [])]) H19 fun v22 H23 =>
      pSt 9 v22 v20 H23 fun H25 =>
      pLoad true 9 v0 H25 fun v27 =>
      pCall Try.prog 58 [v27] H25 fun v28 H29 =>
      pBox 29 (V.agg [(V.sl false 3 []), (V.int .i64 0), (V.int .i64 0), (V.int .i64 0), (V.sl false 1 []), (V.bool false), (V.sl false 5 []), (V.sl false 1 []), (V.sl false 1 [])]) H29 fun v30 H31 =>
      pSt 9 v30 v28 H31 fun H33 =>
      pCall Try.prog 95 [x1] H33 fun v35 H36 =>
      pLoad true 9 v30 H36 fun v37 =>
      pCall Try.prog 65 [v37, v35] H36 fun v38 H39 =>
      pTup v38 0 fun v40 =>
      pTup v38 1 fun v41 =>
      pBox 29 (V.agg [(V.sl false 3 []), (V.int .i64 0), (V.int .i64 0), (V.int .i64 0), (V.sl false 1 []), (V.bool false), (V.sl false 5 []), (V.sl false 1 []), (V.sl false 1 [])]) H39 fun v42 H43 =>
      pSt 9 v42 v40 H43 fun H45 =>
      pLoad true 9 v42 H45 fun v47 =>
      pLoad true 9 v22 H45 fun v48 =>
      pCall Try.prog 61 [v47, v48] H45 fun v49 H50 =>
      pNot v49 fun v51 =>
      cIf v51
        (pWk (List.length H0) [(V.bool false)] H50 fun xs52 H53 => (Q (nthV xs52 0) H53))
        (pBin EK.bool BinOp.neq v41 v21 H50 fun v54 =>
        cIf v54
          (pWk (List.length H0) [(V.bool false)] H50 fun xs55 H56 => (Q (nthV xs55 0) H56))
          (pLoad true 9 v30 H50 fun v57 =>
          pLoad true 9 v0 H50 fun v58 =>
          pCall Try.prog 58 [v58] H50 fun v59 H60 =>
          (keepV v30 H50 H60 ∧ True) ∧ pCall Try.prog 61 [v57, v59] H60 fun v61 H62 =>
          True ∧ pNot v61 fun v63 =>
          cIf v63
            (pWk (List.length H0) [(V.bool false)] H62 fun xs64 H65 => (Q (nthV xs64 0) H65))
            (pCall Try.prog 95 [x1] H62 fun v66 H67 =>
            pCall Try.prog 96 [v35, v66] H67 fun v68 H69 =>
            pNot v68 fun v70 =>
            cIf v70
              (pWk (List.length H0) [(V.bool false)] H69 fun xs71 H72 => (Q (nthV xs71 0) H72))
              (pLoad true 9 v30 H69 fun v73 =>
              pCall Try.prog 91 [v73, (V.int .i64 1)] H69 fun v74 H75 =>
              pCall Try.prog 97 [v35, v74] H75 fun v76 H77 =>
              pBin EK.other BinOp.lss v76 (V.int .i64 0) H77 fun v78 =>
              cIf v78
                (pWk (List.length H0) [(V.bool false)] H77 fun xs79 H80 => (Q (nthV xs79 0) H80))
                (pLoad true 9 v42 H77 fun v81 =>
                pLoad true 9 v22 H77 fun v82 =>
                pCall Try.prog 61 [v81, v82] H77 fun v83 H84 =>
                pNot v83 fun v85 =>
                cIf v85
                  (pWk (List.length H0) [(V.bool false)] H84 fun xs86 H87 => (Q (nthV xs86 0) H87))
                  (pBin EK.bool BinOp.neq v41 v21 H84 fun v88 =>
                  cIf v88
                    (pWk (List.length H0) [(V.bool false)] H84 fun xs89 H90 => (Q (nthV xs89 0) H90))
                    (pLoad true 9 v42 H84 fun v91 =>
                    pCall Try.prog 91 [v91, (V.int .i64 1)] H84 fun v92 H93 =>
                    pLoad true 9 v42 H93 fun v94 =>
                    pCall Try.prog 92 [v94, (V.int .i64 1)] H93 fun v95 H96 =>
                    pBin EK.other BinOp.lss v95 (V.int .i64 0) H96 fun v97 =>
                    cIf v97
                      (pWk (List.length H0) [(V.bool false)] H96 fun xs98 H99 => (Q (nthV xs98 0) H99))
                      (pBin EK.other BinOp.neq v95 v92 H96 fun v100 =>
                      cIf v100
                        (pWk (List.length H0) [(V.bool false)] H96 fun xs101 H102 => (Q (nthV xs101 0) H102))
                        (pLoad true 9 v0 H96 fun v103 =>
                        pCall Try.prog 58 [v103] H96 fun v104 H105 =>
                        pCall Try.prog 95 [x1] H105 fun v106 H107 =>
                        pCall Try.prog 65 [v104, v106] H107 fun v108 H109 =>
                        pTup v108 0 fun v110 =>
                        pTup v108 1 fun v111 =>
                        pBox 29 (V.agg [(V.sl false 3 []), (V.int .i64 0), (V.int .i64 0), (V.int .i64 0), (V.sl false 1 []), (V.bool false), (V.sl false 5 []), (V.sl false 1 []), (V.sl false 1 [])]) H109 fun v112 H113 =>
                        pSt 9 v112 v110 H113 fun H115 =>
                        pLoad true 9 v112 H115 fun v117 =>
                        pLoad true 9 v22 H115 fun v118 =>
                        pCall Try.prog 61 [v117, v118] H115 fun v119 H120 =>
                        pNot v119 fun v121 =>
                        cIf v121
                          (pWk (List.length H0) [(V.bool false)] H120 fun xs122 H123 => (Q (nthV xs122 0) H123))
                          (pBin EK.bool BinOp.neq v111 v21 H120 fun v124 =>
                          cIf v124
                            (pWk (List.length H0) [(V.bool false)] H120 fun xs125 H126 => (Q (nthV xs125 0) H126))
                            (pLoad true 9 v42 H120 fun v127 =>
                            pCall Try.prog 92 [v127, (V.int .i64 1)] H120 fun v128 H129 =>
                            pBin EK.other BinOp.lss v128 (V.int .i64 0) H129 fun v130 =>
                            cIf v130
                              (pWk (List.length H0) [(V.bool false)] H129 fun xs131 H132 => (Q (nthV xs131 0) H132))
                              (pBin EK.other BinOp.neq v128 v92 H129 fun v133 =>
                              cIf v133
                                (pWk (List.length H0) [(V.bool false)] H129 fun xs134 H135 => (Q (nthV xs134 0) H135))
                                (pWk (List.length H0) [(V.bool true)] H129 fun xs136 H137 => (Q (nthV xs136 0) H137))))))))))))))))
def h15 : Nat → Option (List Nat)
  | _ => none
theorem c15 {x0 x1 : V} {H0 : Heap} {Q : V → Heap → Prop} (h : t15 x0 x1 H0 Q) : Ct Try.prog 15 [x0, x1] H0 Q :=
  Ct_of_text (fn := Try.f15) h15 (by kernel_rfl) (by kernel_rfl) (by kernel_rfl) (by kernel_rfl) h

end Go.Sim
