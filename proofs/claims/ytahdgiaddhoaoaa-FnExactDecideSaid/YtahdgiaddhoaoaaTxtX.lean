/- The text of the law FnExactWithdraw. -/
import Derived.Test.YtahdgiaddhoaoaaSimC
import Derived.Test.YtahdgiaddhoaoaaProg

set_option maxRecDepth 100000
namespace Go.Sim
open Go.Proofs

def t14 (x0 x1 x2 : V) (H0 : Heap) (Q : V → Heap → Prop) : Prop :=
  pBox 84 x0 H0 fun v0 H1 =>
  pLoad true 9 v0 H1 fun v2 =>
  pCall Try.prog 56 [v2, (V.int .i64 1048576)] H1 fun v3 H4 =>
  pBin EK.other BinOp.lss v3 (V.int .i64 0) H4 fun v5 =>
  cIf v5
    (pWk (List.length H0) [(V.bool true)] H4 fun xs6 H7 => (Q (nthV xs6 0) H7))
    (pLoad true 9 v0 H4 fun v8 =>
    pCall Try.prog 58 [v8] H4 fun v9 H10 =>
    pCall Try.prog 90 [v9, x1, x2] H10 fun v11 H12 =>
    pTup v11 0 fun v13 =>
    pTup v11 1 fun v14 =>
    pBox 29 (V.agg [(V.sl false 3 []), (V.int .i64 0), (V.int .i64 0), (V.int .i64 0), (V.sl false 1 []), (V.bool false), (V.sl false 5 []), (V.sl false 1 []), (V.sl false 1 [])]) H12 fun v15 H16 =>
    pSt 9 v15 v13 H16 fun H18 =>
    pLoad true 9 v0 H18 fun v20 =>
    pCall Try.prog 58 [v20] H18 fun v21 H22 =>
    pBox 29 (V.agg [(V.sl false 3 []), (V.int .i64 0), (V.int .i64 0), (V.int .i64 0), (V.sl false 1 []), (V.bool false), (V.sl false 5 []), (V.sl false 1 []), (V.sl false 1 [])]) H22 fun v23 H24 =>
    pSt 9 v23 v21 H24 fun H26 =>
    pLoad true 9 v23 H26 fun v28 =>
    pCall Try.prog 21 [v28, x1, x2] H26 fun v29 H30 =>
    pTup v29 0 fun v31 =>
    pTup v29 1 fun v32 =>
    pBox 29 (V.agg [(V.sl false 3 []), (V.int .i64 0), (V.int .i64 0), (V.int .i64 0), (V.sl false 1 []), (V.bool false), (V.sl false 5 []), (V.sl false 1 []), (V.sl false 1 [])]) H30 fun v33 H34 =>
    pSt 9 v33 v31 H34 fun H36 =>
    pLoad true 9 v33 H36 fun v38 =>
    pLoad true 9 v15 H36 fun v39 =>
    pCall Try.prog 61 [v38, v39] H36 fun v40 H41 =>
    pNot v40 fun v42 =>
    cIf v42
      (pWk (List.length H0) [(V.bool false)] H41 fun xs43 H44 => (Q (nthV xs43 0) H44))
      (pBin EK.bool BinOp.neq v32 v14 H41 fun v45 =>
      cIf v45
        (pWk (List.length H0) [(V.bool false)] H41 fun xs46 H47 => (Q (nthV xs46 0) H47))
        (pLoad true 9 v23 H41 fun v48 =>
        pLoad true 9 v0 H41 fun v49 =>
        pCall Try.prog 58 [v49] H41 fun v50 H51 =>
        (keepV v23 H41 H51 ∧ True) ∧ pCall Try.prog 61 [v48, v50] H51 fun v52 H53 =>
        True ∧ pNot v52 fun v54 =>
        cIf v54
          (pWk (List.length H0) [(V.bool false)] H53 fun xs55 H56 => (Q (nthV xs55 0) H56))
          (pLoad true 9 v23 H53 fun v57 =>
          pCall Try.prog 91 [v57, (V.int .i64 1)] H53 fun v58 H59 =>
          pBin EK.other BinOp.lss v58 (V.int .i64 0) H59 fun v60 =>
          cIf v60
            (pWk (List.length H0) [(V.bool false)] H59 fun xs61 H62 => (Q (nthV xs61 0) H62))
            (pLoad true 9 v33 H59 fun v63 =>
            pLoad true 9 v15 H59 fun v64 =>
            pCall Try.prog 61 [v63, v64] H59 fun v65 H66 =>
            pNot v65 fun v67 =>
            cIf v67
              (pWk (List.length H0) [(V.bool false)] H66 fun xs68 H69 => (Q (nthV xs68 0) H69))
              (pBin EK.bool BinOp.neq v32 v14 H66 fun v70 =>
              cIf v70
                (pWk (List.length H0) [(V.bool false)] H66 fun xs71 H72 => (Q (nthV xs71 0) H72))
                (pLoad true 9 v33 H66 fun v73 =>
                pCall Try.prog 91 [v73, (V.int .i64 1)] H66 fun v74 H75 =>
                pLoad true 9 v33 H75 fun v76 =>
                pCall Try.prog 92 [v76, (V.int .i64 1)] H75 fun v77 H78 =>
                pBin EK.other BinOp.lss v77 (V.int .i64 0) H78 fun v79 =>
                cIf v79
                  (pWk (List.length H0) [(V.bool false)] H78 fun xs80 H81 => (Q (nthV xs80 0) H81))
                  (pBin EK.other BinOp.neq v77 v74 H78 fun v82 =>
                  cIf v82
                    (pWk (List.length H0) [(V.bool false)] H78 fun xs83 H84 => (Q (nthV xs83 0) H84))
                    (pLoad true 9 v0 H78 fun v85 =>
                    pCall Try.prog 58 [v85] H78 fun v86 H87 =>
                    pCall Try.prog 21 [v86, x1, x2] H87 fun v88 H89 =>
                    pTup v88 0 fun v90 =>
                    pTup v88 1 fun v91 =>
                    pBox 29 (V.agg [(V.sl false 3 []), (V.int .i64 0), (V.int .i64 0), (V.int .i64 0), (V.sl false 1 []), (V.bool false), (V.sl false 5 []), (V.sl false 1 []), (V.sl false 1 [])]) H89 fun v92 H93 =>
                    pSt 9 v92 v90 H93 fun H95 =>
                    pLoad true 9 v92 H95 fun v97 =>
                    pLoad true 9 v15 H95 fun v98 =>
                    pCall Try.prog 61 [v97, v98] H95 fun v99 H100 =>
                    pNot v99 fun v101 =>
                    cIf v101
                      (pWk (List.length H0) [(V.bool false)] H100 fun xs102 H103 => (Q (nthV xs102 0) H103))
                      (pBin EK.bool BinOp.neq v91 v14 H100 fun v104 =>
                      cIf v104
                        (pWk (List.length H0) [(V.bool false)] H100 fun xs105 H106 => (Q (nthV xs105 0) H106))
                        (pLoad true 9 v33 H100 fun v107 =>
                        pCall Try.prog 92 [v107, (V.int .i64 1)] H100 fun v108 H109 =>
                        pBin EK.other BinOp.lss v108 (V.int .i64 0) H109 fun v110 =>
                        cIf v110
                          (pWk (List.length H0) [(V.bool false)] H109 fun xs111 H112 => (Q (nthV xs111 0) H112))
                          (pBin EK.other BinOp.neq v108 v74 H109 fun v113 =>
                          cIf v113
                            (pWk (List.length H0) [(V.bool false)] H109 fun xs114 H115 => (Q (nthV xs114 0) H115))
                            (pWk (List.length H0) [(V.bool true)] H109 fun xs116 H117 => (Q (nthV xs116 0) H117))))))))))))))
def h14 : Nat → Option (List Nat)
  | _ => none
theorem c14 {x0 x1 x2 : V} {H0 : Heap} {Q : V → Heap → Prop} (h : t14 x0 x1 x2 H0 Q) : Ct Try.prog 14 [x0, x1, x2] H0 Q :=
  Ct_of_text (fn := Try.f14) h14 (by kernel_rfl) (by kernel_rfl) (by kernel_rfl) (by kernel_rfl) h

end Go.Sim
