/- The text of the law FnExactPointsLost. -/
import Derived.Test.YtahdgiaddhoaoaaSimC
import Derived.Test.YtahdgiaddhoaoaaProg

set_option maxRecDepth 100000
namespace Go.Sim
open Go.Proofs

def t16 (x0 x1 x2 : V) (H0 : Heap) (Q : V → Heap → Prop) : Prop :=
  pBox 84 x0 H0 fun v0 H1 =>
  pLoad true 9 v0 H1 fun v2 =>
  pCall Try.prog 56 [v2, (V.int .i64 1048576)] H1 fun v3 H4 =>
  pBin EK.other BinOp.lss v3 (V.int .i64 0) H4 fun v5 =>
  cIf v5
    (pWk (List.length H0) [(V.bool true)] H4 fun xs6 H7 => (Q (nthV xs6 0) H7))
    (pLoad true 9 v0 H4 fun v8 =>
    pCall Try.prog 58 [v8] H4 fun v9 H10 =>
    pCall Try.prog 98 [v9, x1, x2] H10 fun v11 H12 =>
    pLoad true 9 v0 H12 fun v13 =>
    pCall Try.prog 58 [v13] H12 fun v14 H15 =>
    pBox 29 (V.agg [(V.sl false 3 []), (V.int .i64 0), (V.int .i64 0), (V.int .i64 0), (V.sl false 1 []), (V.bool false), (V.sl false 5 []), (V.sl false 1 []), (V.sl false 1 [])]) H15 fun v16 H17 =>
    pSt 9 v16 v14 H17 fun H19 =>
    pLoad true 9 v16 H19 fun v21 =>
    pCall Try.prog 28 [v21, x1, x2] H19 fun v22 H23 =>
    pCall Try.prog 50 [v22, v11] H23 fun v24 H25 =>
    pNot v24 fun v26 =>
    cIf v26
      (pWk (List.length H0) [(V.bool false)] H25 fun xs27 H28 => (Q (nthV xs27 0) H28))
      (pLoad true 9 v16 H25 fun v29 =>
      pLoad true 9 v0 H25 fun v30 =>
      pCall Try.prog 58 [v30] H25 fun v31 H32 =>
      (keepV v16 H25 H32 ∧ True) ∧ pCall Try.prog 61 [v29, v31] H32 fun v33 H34 =>
      True ∧ pNot v33 fun v35 =>
      cIf v35
        (pWk (List.length H0) [(V.bool false)] H34 fun xs36 H37 => (Q (nthV xs36 0) H37))
        (pLoad true 9 v16 H34 fun v38 =>
        pCall Try.prog 91 [v38, (V.int .i64 1)] H34 fun v39 H40 =>
        pBin EK.other BinOp.lss v39 (V.int .i64 0) H40 fun v41 =>
        cIf v41
          (pWk (List.length H0) [(V.bool false)] H40 fun xs42 H43 => (Q (nthV xs42 0) H43))
          (pCall Try.prog 50 [v22, v11] H40 fun v44 H45 =>
          pNot v44 fun v46 =>
          cIf v46
            (pWk (List.length H0) [(V.bool false)] H45 fun xs47 H48 => (Q (nthV xs47 0) H48))
            (pCall Try.prog 88 [v22, (V.int .i64 1)] H45 fun v49 H50 =>
            pCall Try.prog 99 [v22, (V.int .i64 1)] H50 fun v51 H52 =>
            pBin EK.other BinOp.lss v51 (V.int .i64 0) H52 fun v53 =>
            cIf v53
              (pWk (List.length H0) [(V.bool false)] H52 fun xs54 H55 => (Q (nthV xs54 0) H55))
              (pBin EK.other BinOp.neq v51 v49 H52 fun v56 =>
              cIf v56
                (pWk (List.length H0) [(V.bool false)] H52 fun xs57 H58 => (Q (nthV xs57 0) H58))
                (pLoad true 9 v0 H52 fun v59 =>
                pCall Try.prog 58 [v59] H52 fun v60 H61 =>
                pCall Try.prog 28 [v60, x1, x2] H61 fun v62 H63 =>
                pCall Try.prog 50 [v62, v11] H63 fun v64 H65 =>
                pNot v64 fun v66 =>
                cIf v66
                  (pWk (List.length H0) [(V.bool false)] H65 fun xs67 H68 => (Q (nthV xs67 0) H68))
                  (pCall Try.prog 99 [v22, (V.int .i64 1)] H65 fun v69 H70 =>
                  pBin EK.other BinOp.lss v69 (V.int .i64 0) H70 fun v71 =>
                  cIf v71
                    (pWk (List.length H0) [(V.bool false)] H70 fun xs72 H73 => (Q (nthV xs72 0) H73))
                    (pBin EK.other BinOp.neq v69 v49 H70 fun v74 =>
                    cIf v74
                      (pWk (List.length H0) [(V.bool false)] H70 fun xs75 H76 => (Q (nthV xs75 0) H76))
                      (pWk (List.length H0) [(V.bool true)] H70 fun xs77 H78 => (Q (nthV xs77 0) H78)))))))))))
def h16 : Nat → Option (List Nat)
  | _ => none
theorem c16 {x0 x1 x2 : V} {H0 : Heap} {Q : V → Heap → Prop} (h : t16 x0 x1 x2 H0 Q) : Ct Try.prog 16 [x0, x1, x2] H0 Q :=
  Ct_of_text (fn := Try.f16) h16 (by kernel_rfl) (by kernel_rfl) (by kernel_rfl) (by kernel_rfl) h

end Go.Sim
