/- The text of the law FnExactOrderMatters. -/
import Derived.Test.YtahdgiaddhoaoaaSimC
import Derived.Test.YtahdgiaddhoaoaaProg

set_option maxRecDepth 100000
namespace Go.Sim
open Go.Proofs

def t7 (x0 x1 x2 : V) (H0 : Heap) (Q : V → Heap → Prop) : Prop :=
  pBox 84 x0 H0 fun v0 H1 =>
  pBox 86 x1 H1 fun v2 H3 =>
  pBox 86 x2 H3 fun v4 H5 =>
  pLoad true 9 v0 H5 fun v6 =>
  pCall Try.prog 56 [v6, (V.int .i64 1048576)] H5 fun v7 H8 =>
  pBin EK.other BinOp.lss v7 (V.int .i64 0) H8 fun v9 =>
  cIf v9
    (pWk (List.length H0) [(V.bool true)] H8 fun xs10 H11 => (Q (nthV xs10 0) H11))
    (pLoad true 9 v0 H8 fun v12 =>
    pLoad true 3 v2 H8 fun v13 =>
    pLoad true 3 v4 H8 fun v14 =>
    pCall Try.prog 58 [v12] H8 fun v15 H16 =>
    (keepV v4 H8 H16 ∧ (keepV v2 H8 H16 ∧ True)) ∧ pCall Try.prog 59 [v13] H16 fun v17 H18 =>
    (keepV v4 H16 H18 ∧ True) ∧ pCall Try.prog 59 [v14] H18 fun v19 H20 =>
    True ∧ pCall Try.prog 57 [v15, v17, v19] H20 fun v21 H22 =>
    True ∧ pLoad true 9 v0 H22 fun v23 =>
    pCall Try.prog 58 [v23] H22 fun v24 H25 =>
    pBox 29 (V.agg [(V.sl false 3 []), (V.int .i64 0), (V.int .i64 0), (V.int .i64 0), (V.sl false 1 []), (V.bool false), (V.sl false 5 []), (V.sl false 1 []), (V.sl false 1 [])]) H25 fun v26 H27 =>
    pSt 9 v26 v24 H27 fun H29 =>
    pLoad true 9 v26 H29 fun v31 =>
    pLoad true 3 v2 H29 fun v32 =>
    pLoad true 3 v4 H29 fun v33 =>
    pCall Try.prog 59 [v32] H29 fun v34 H35 =>
    (keepV v4 H29 H35 ∧ (keepV v26 H29 H35 ∧ True)) ∧ pCall Try.prog 59 [v33] H35 fun v36 H37 =>
    (keepV v26 H35 H37 ∧ True) ∧ pCall Try.prog 60 [v31, v34, v36] H37 fun v38 H39 =>
    True ∧ pBin EK.bool BinOp.neq v38 v21 H39 fun v40 =>
    cIf v40
      (pWk (List.length H0) [(V.bool false)] H39 fun xs41 H42 => (Q (nthV xs41 0) H42))
      (pLoad true 9 v26 H39 fun v43 =>
      pLoad true 9 v0 H39 fun v44 =>
      pCall Try.prog 58 [v44] H39 fun v45 H46 =>
      (keepV v26 H39 H46 ∧ True) ∧ pCall Try.prog 61 [v43, v45] H46 fun v47 H48 =>
      True ∧ pNot v47 fun v49 =>
      cIf v49
        (pWk (List.length H0) [(V.bool false)] H48 fun xs50 H51 => (Q (nthV xs50 0) H51))
        (pWk (List.length H0) [(V.bool true)] H48 fun xs52 H53 => (Q (nthV xs52 0) H53))))
def h7 : Nat → Option (List Nat)
  | _ => none
theorem c7 {x0 x1 x2 : V} {H0 : Heap} {Q : V → Heap → Prop} (h : t7 x0 x1 x2 H0 Q) : Ct Try.prog 7 [x0, x1, x2] H0 Q :=
  Ct_of_text (fn := Try.f7) h7 (by kernel_rfl) (by kernel_rfl) (by kernel_rfl) (by kernel_rfl) h

end Go.Sim
