/- The text of the law FnWithdrawals. -/
import Derived.Test.YtahdgiaddhoaoaaSimC
import Derived.Test.YtahdgiaddhoaoaaProg

set_option maxRecDepth 100000
namespace Go.Sim
open Go.Proofs

def t3 (x0 : V) (H0 : Heap) (Q : V → Heap → Prop) : Prop :=
  pLn false x0 fun v0 =>
  pBin EK.other BinOp.gtr v0 (V.int .i64 1048576) H0 fun v1 =>
  cIf v1
    (pWk (List.length H0) [(V.bool true)] H0 fun xs2 H3 => (Q (nthV xs2 0) H3))
    (pCall Try.prog 19 [x0] H0 fun v4 H5 =>
    pBox 29 (V.agg [(V.sl false 3 []), (V.int .i64 0), (V.int .i64 0), (V.int .i64 0), (V.sl false 1 []), (V.bool false), (V.sl false 5 []), (V.sl false 1 []), (V.sl false 1 [])]) H5 fun v6 H7 =>
    pSt 9 v6 v4 H7 fun H9 =>
    pFa 0 1 v6 fun v11 =>
    pLoad false 1 v11 H9 fun v12 =>
    pLn false v12 fun v13 =>
    pCall Try.prog 20 [x0, (V.int .i64 60)] H9 fun v14 H15 =>
    (keepV v11 H9 H15 ∧ True) ∧ pBin EK.other BinOp.rem v14 v13 H15 fun v16 =>
    pLoad true 9 v6 H15 fun v17 =>
    pCall Try.prog 21 [v17, v16, (V.int .i64 1)] H15 fun v18 H19 =>
    pTup v18 0 fun v20 =>
    pTup v18 1 fun v21 =>
    pBox 29 (V.agg [(V.sl false 3 []), (V.int .i64 0), (V.int .i64 0), (V.int .i64 0), (V.sl false 1 []), (V.bool false), (V.sl false 5 []), (V.sl false 1 []), (V.sl false 1 [])]) H19 fun v22 H23 =>
    pSt 9 v22 v20 H23 fun H25 =>
    pLoad true 9 v6 H25 fun v27 =>
    pCall Try.prog 21 [v27, v16, (V.int .i64 2)] H25 fun v28 H29 =>
    pTup v28 0 fun v30 =>
    pTup v28 1 fun v31 =>
    pBox 29 (V.agg [(V.sl false 3 []), (V.int .i64 0), (V.int .i64 0), (V.int .i64 0), (V.sl false 1 []), (V.bool false), (V.sl false 5 []), (V.sl false 1 []), (V.sl false 1 [])]) H29 fun v32 H33 =>
    pSt 9 v32 v30 H33 fun H35 =>
    pNot v21 fun v37 =>
    cIf v37
      (pWk (List.length H0) [(V.bool false)] H35 fun xs38 H39 => (Q (nthV xs38 0) H39))
      (pNot v31 fun v40 =>
      cIf v40
        (pWk (List.length H0) [(V.bool false)] H35 fun xs41 H42 => (Q (nthV xs41 0) H42))
        (pLoad true 9 v22 H35 fun v43 =>
        pCall Try.prog 22 [v43] H35 fun v44 H45 =>
        pNot v44 fun v46 =>
        cIf v46
          (pWk (List.length H0) [(V.bool false)] H45 fun xs47 H48 => (Q (nthV xs47 0) H48))
          (pLoad true 9 v32 H45 fun v49 =>
          pCall Try.prog 22 [v49] H45 fun v50 H51 =>
          pNot v50 fun v52 =>
          cIf v52
            (pWk (List.length H0) [(V.bool false)] H51 fun xs53 H54 => (Q (nthV xs53 0) H54))
            (pLoad true 9 v22 H51 fun v55 =>
            pCall Try.prog 23 [v55, v16] H51 fun v56 H57 =>
            pNot v56 fun v58 =>
            cIf v58
              (pWk (List.length H0) [(V.bool false)] H57 fun xs59 H60 => (Q (nthV xs59 0) H60))
              (pLoad true 9 v22 H57 fun v61 =>
              pCall Try.prog 25 [v61] H57 fun v62 H63 =>
              pCall Try.prog 24 [v62, v16] H63 fun v64 H65 =>
              cIf v64
                (pWk (List.length H0) [(V.bool false)] H65 fun xs66 H67 => (Q (nthV xs66 0) H67))
                (pLoad true 9 v6 H65 fun v68 =>
                pLoad true 9 v22 H65 fun v69 =>
                pCall Try.prog 26 [v68, v69] H65 fun v70 H71 =>
                pLn false v70 fun v72 =>
                ∃ (I73 : List V → Heap → Prop) (m74 : List V → Heap → Nat), (pWk (List.length H71) [(V.int .i64 0)] H71 fun xs77 H78 => (I73 xs77 H78)) ∧
                  ∀ xs75 H76, I73 xs75 H76 →
                  pBin EK.other BinOp.lss (xs75.getD 0 V.undef) v72 H76 fun v79 =>
                  cIf v79
                    (pIndexAddr 1 v70 (xs75.getD 0 V.undef) H76 fun v80 =>
                    pLoad false 1 v80 H76 fun v81 =>
                    pBin EK.other BinOp.lss v81 (V.int .i64 0) H76 fun v82 =>
                    cIf v82
                      (pWk (List.length H0) [(V.bool false)] H76 fun xs83 H84 => (Q (nthV xs83 0) H84))
                      (pFa 6 1 v6 fun v85 =>
                      pLoad false 1 v85 H76 fun v86 =>
                      pLn false v86 fun v87 =>
                      pBin EK.other BinOp.geq v81 v87 H76 fun v88 =>
                      cIf v88
                        (pWk (List.length H0) [(V.bool false)] H76 fun xs89 H90 => (Q (nthV xs89 0) H90))
                        (pFa 6 1 v6 fun v91 =>
                        pLoad false 1 v91 H76 fun v92 =>
                        pIndexAddr 5 v92 v81 H76 fun v93 =>
                        pFa 0 1 v93 fun v94 =>
                        pLoad false 1 v94 H76 fun v95 =>
                        pBin EK.other BinOp.neq v95 v16 H76 fun v96 =>
                        cIf v96
                          (pFa 6 1 v6 fun v97 =>
                          pLoad false 1 v97 H76 fun v98 =>
                          pIndexAddr 5 v98 v81 H76 fun v99 =>
                          pFa 1 1 v99 fun v100 =>
                          pLoad false 1 v100 H76 fun v101 =>
                          pBin EK.other BinOp.neq v101 v16 H76 fun v102 =>
                          cIf v102
                            (pWk (List.length H0) [(V.bool false)] H76 fun xs103 H104 => (Q (nthV xs103 0) H104))
                            (pBin EK.other BinOp.add (xs75.getD 0 V.undef) (V.int .i64 1) H76 fun v105 =>
                            pWk (List.length H71) [v105] H76 fun xs106 H107 => (I73 xs106 H107) ∧ m74 xs106 H107 < m74 xs75 H76))
                          (pBin EK.other BinOp.add (xs75.getD 0 V.undef) (V.int .i64 1) H76 fun v108 =>
                          pWk (List.length H71) [v108] H76 fun xs109 H110 => (I73 xs109 H110) ∧ m74 xs109 H110 < m74 xs75 H76))))
                    (pLoad true 9 v6 H76 fun v111 =>
                    pLoad true 9 v32 H76 fun v112 =>
                    pCall Try.prog 26 [v111, v112] H76 fun v113 H114 =>
                    pLn false v113 fun v115 =>
                    ∃ (I116 : List V → Heap → Prop) (m117 : List V → Heap → Nat), (pWk (List.length H114) [(V.int .i64 0)] H114 fun xs120 H121 => (I116 xs120 H121)) ∧
                      ∀ xs118 H119, I116 xs118 H119 →
                      pBin EK.other BinOp.lss (xs118.getD 0 V.undef) v115 H119 fun v122 =>
                      cIf v122
                        (pIndexAddr 1 v113 (xs118.getD 0 V.undef) H119 fun v123 =>
                        pLoad false 1 v123 H119 fun v124 =>
                        pBin EK.other BinOp.lss v124 (V.int .i64 0) H119 fun v125 =>
                        cIf v125
                          (pWk (List.length H0) [(V.bool false)] H119 fun xs126 H127 => (Q (nthV xs126 0) H127))
                          (pFa 6 1 v6 fun v128 =>
                          pLoad false 1 v128 H119 fun v129 =>
                          pLn false v129 fun v130 =>
                          pBin EK.other BinOp.geq v124 v130 H119 fun v131 =>
                          cIf v131
                            (pWk (List.length H0) [(V.bool false)] H119 fun xs132 H133 => (Q (nthV xs132 0) H133))
                            (pFa 6 1 v6 fun v134 =>
                            pLoad false 1 v134 H119 fun v135 =>
                            pIndexAddr 5 v135 v124 H119 fun v136 =>
                            pFa 0 1 v136 fun v137 =>
                            pLoad false 1 v137 H119 fun v138 =>
                            pBin EK.other BinOp.neq v138 v16 H119 fun v139 =>
                            cIf v139
                              (pFa 6 1 v6 fun v140 =>
                              pLoad false 1 v140 H119 fun v141 =>
                              pIndexAddr 5 v141 v124 H119 fun v142 =>
                              pFa 1 1 v142 fun v143 =>
                              pLoad false 1 v143 H119 fun v144 =>
                              pBin EK.other BinOp.neq v144 v16 H119 fun v145 =>
                              cIf v145
                                (pWk (List.length H0) [(V.bool false)] H119 fun xs146 H147 => (Q (nthV xs146 0) H147))
                                (pFa 6 1 v6 fun v148 =>
                                pLoad false 1 v148 H119 fun v149 =>
                                pIndexAddr 5 v149 v124 H119 fun v150 =>
                                pLoad true 5 v150 H119 fun v151 =>
                                pCall Try.prog 27 [v151] H119 fun v152 H153 =>
                                pNot v152 fun v154 =>
                                cIf v154
                                  (pWk (List.length H0) [(V.bool false)] H153 fun xs155 H156 => (Q (nthV xs155 0) H156))
                                  (pBin EK.other BinOp.add (xs118.getD 0 V.undef) (V.int .i64 1) H153 fun v157 =>
                                  pWk (List.length H114) [v157] H153 fun xs158 H159 => (I116 xs158 H159) ∧ m117 xs158 H159 < m117 xs118 H119)))
                              (pFa 6 1 v6 fun v160 =>
                              pLoad false 1 v160 H119 fun v161 =>
                              pIndexAddr 5 v161 v124 H119 fun v162 =>
                              pLoad true 5 v162 H119 fun v163 =>
                              pCall Try.prog 27 [v163] H119 fun v164 H165 =>
                              pNot v164 fun v166 =>
                              cIf v166
                                (pWk (List.length H0) [(V.bool false)] H165 fun xs167 H168 => (Q (nthV xs167 0) H168))
                                (pBin EK.other BinOp.add (xs118.getD 0 V.undef) (V.int .i64 1) H165 fun v169 =>
                                pWk (List.length H114) [v169] H165 fun xs170 H171 => (I116 xs170 H171) ∧ m117 xs170 H171 < m117 xs118 H119)))))
                        (pLoad true 9 v6 H119 fun v172 =>
                        pCall Try.prog 28 [v172, v16, (V.int .i64 2)] H119 fun v173 H174 =>
                        pLoad true 9 v6 H174 fun v175 =>
                        pCall Try.prog 28 [v175, v16, (V.int .i64 1)] H174 fun v176 H177 =>
                        pLn false v173 fun v178 =>
                        pFa 0 1 v6 fun v179 =>
                        pLoad false 1 v179 H177 fun v180 =>
                        pLn false v180 fun v181 =>
                        pBin EK.other BinOp.neq v178 v181 H177 fun v182 =>
                        cIf v182
                          (pWk (List.length H0) [(V.bool false)] H177 fun xs183 H184 => (Q (nthV xs183 0) H184))
                          (pLn false v176 fun v185 =>
                          pFa 0 1 v6 fun v186 =>
                          pLoad false 1 v186 H177 fun v187 =>
                          pLn false v187 fun v188 =>
                          pBin EK.other BinOp.neq v185 v188 H177 fun v189 =>
                          cIf v189
                            (pWk (List.length H0) [(V.bool false)] H177 fun xs190 H191 => (Q (nthV xs190 0) H191))
                            (pLn false v173 fun v192 =>
                            ∃ (I193 : List V → Heap → Prop) (m194 : List V → Heap → Nat), (pWk (List.length H177) [(V.int .i64 0)] H177 fun xs197 H198 => (I193 xs197 H198)) ∧
                              ∀ xs195 H196, I193 xs195 H196 →
                              pBin EK.other BinOp.lss (xs195.getD 0 V.undef) v192 H196 fun v199 =>
                              cIf v199
                                (pBin EK.other BinOp.neq (xs195.getD 0 V.undef) v16 H196 fun v200 =>
                                cIf v200
                                  (pIndexAddr 1 v173 (xs195.getD 0 V.undef) H196 fun v201 =>
                                  pLoad false 1 v201 H196 fun v202 =>
                                  pBin EK.other BinOp.gtr v202 (V.int .i64 0) H196 fun v203 =>
                                  cIf v203
                                    (pWk (List.length H0) [(V.bool false)] H196 fun xs204 H205 => (Q (nthV xs204 0) H205))
                                    (pIndexAddr 1 v176 (xs195.getD 0 V.undef) H196 fun v206 =>
                                    pLoad false 1 v206 H196 fun v207 =>
                                    pBin EK.other BinOp.lss v207 (V.int .i64 0) H196 fun v208 =>
                                    cIf v208
                                      (pWk (List.length H0) [(V.bool false)] H196 fun xs209 H210 => (Q (nthV xs209 0) H210))
                                      (pBin EK.other BinOp.add (xs195.getD 0 V.undef) (V.int .i64 1) H196 fun v211 =>
                                      pWk (List.length H177) [v211] H196 fun xs212 H213 => (I193 xs212 H213) ∧ m194 xs212 H213 < m194 xs195 H196)))
                                  (pIndexAddr 1 v176 (xs195.getD 0 V.undef) H196 fun v214 =>
                                  pLoad false 1 v214 H196 fun v215 =>
                                  pBin EK.other BinOp.lss v215 (V.int .i64 0) H196 fun v216 =>
                                  cIf v216
                                    (pWk (List.length H0) [(V.bool false)] H196 fun xs217 H218 => (Q (nthV xs217 0) H218))
                                    (pBin EK.other BinOp.add (xs195.getD 0 V.undef) (V.int .i64 1) H196 fun v219 =>
                                    pWk (List.length H177) [v219] H196 fun xs220 H221 => (I193 xs220 H221) ∧ m194 xs220 H221 < m194 xs195 H196)))
                                (pLoad true 9 v6 H196 fun v222 =>
                                pCall Try.prog 30 [v222, v16] H196 fun v223 H224 =>
                                pCall Try.prog 29 [v223] H224 fun v225 H226 =>
                                pBin EK.other BinOp.neq v225 (V.str ({ data := #[] })) H226 fun v227 =>
                                pWk (List.length H0) [v227] H226 fun xs228 H229 => (Q (nthV xs228 0) H229)))))))))))))
def h3 : Nat → Option (List Nat)
  | 10 => some [71]
  | 16 => some [109]
  | 26 => some [174]
  | _ => none
theorem c3 {x0 : V} {H0 : Heap} {Q : V → Heap → Prop} (h : t3 x0 H0 Q) : Ct Try.prog 3 [x0] H0 Q :=
  Ct_of_text (fn := Try.f3) h3 (by kernel_rfl) (by kernel_rfl) (by kernel_rfl) (by kernel_rfl) h

end Go.Sim
