/- The texts of the reference for tables. -/
import Derived.Test.YtahdgiaddhoaoaaSimC
import Derived.Test.YtahdgiaddhoaoaaProg

set_option maxRecDepth 100000
namespace Go.Sim
open Go.Proofs

def t294 (x0 : V) (H0 : Heap) (Q : V → Heap → Prop) : Prop :=
  pBox 40 x0 H0 fun v0 H1 =>
  pFa 4 1 v0 fun v2 =>
  pLoad false 1 v2 H1 fun v3 =>
  pBin EK.other BinOp.eql v3 (V.int .i64 1) H1 fun v4 =>
  cIf v4
    (pFa 2 1 v0 fun v5 =>
    pLoad false 1 v5 H1 fun v6 =>
    pFa 3 1 v0 fun v7 =>
    pLoad false 1 v7 H1 fun v8 =>
    pWk (List.length H0) [(V.tup [v6, v8, (V.bool true)])] H1 fun xs9 H10 => (Q (nthV xs9 0) H10))
    (pBin EK.other BinOp.eql v3 (V.int .i64 2) H1 fun v11 =>
    cIf v11
      (pWk (List.length H0) [(V.tup [(V.int .i64 3), (V.int .i64 0), (V.bool true)])] H1 fun xs12 H13 => (Q (nthV xs12 0) H13))
      (pBin EK.other BinOp.eql v3 (V.int .i64 3) H1 fun v14 =>
      cIf v14
        (pWk (List.length H0) [(V.tup [(V.int .i64 0), (V.int .i64 3), (V.bool true)])] H1 fun xs15 H16 => (Q (nthV xs15 0) H16))
        (pWk (List.length H0) [(V.tup [(V.int .i64 0), (V.int .i64 0), (V.bool false)])] H1 fun xs17 H18 => (Q (nthV xs17 0) H18))))
def h294 : Nat → Option (List Nat)
  | _ => none
theorem c294 {x0 : V} {H0 : Heap} {Q : V → Heap → Prop} (h : t294 x0 H0 Q) : Ct Try.prog 294 [x0] H0 Q :=
  Ct_of_text (fn := Try.f294) h294 (by kernel_rfl) (by kernel_rfl) (by kernel_rfl) (by kernel_rfl) h

def t295 (x0 : V) (H0 : Heap) (Q : V → Heap → Prop) : Prop :=
  pBox 40 x0 H0 fun v0 H1 =>
  pLoad true 5 v0 H1 fun v2 =>
  pCall Try.prog 294 [v2] H1 fun v3 H4 =>
  pTup v3 0 fun v5 =>
  pTup v3 1 fun v6 =>
  pTup v3 2 fun v7 =>
  pNot v7 fun v8 =>
  cIf v8
    (pWk (List.length H0) [(V.int .i64 0)] H4 fun xs9 H10 => (Q (nthV xs9 0) H10))
    (pBin EK.other BinOp.gtr v5 v6 H4 fun v11 =>
    cIf v11
      (pWk (List.length H0) [(V.int .i64 1)] H4 fun xs12 H13 => (Q (nthV xs12 0) H13))
      (pBin EK.other BinOp.eql v5 v6 H4 fun v14 =>
      cIf v14
        (pWk (List.length H0) [(V.int .i64 2)] H4 fun xs15 H16 => (Q (nthV xs15 0) H16))
        (pWk (List.length H0) [(V.int .i64 3)] H4 fun xs17 H18 => (Q (nthV xs17 0) H18))))
def h295 : Nat → Option (List Nat)
  | _ => none
theorem c295 {x0 : V} {H0 : Heap} {Q : V → Heap → Prop} (h : t295 x0 H0 Q) : Ct Try.prog 295 [x0] H0 Q :=
  Ct_of_text (fn := Try.f295) h295 (by kernel_rfl) (by kernel_rfl) (by kernel_rfl) (by kernel_rfl) h

def t296 (x0 x1 : V) (H0 : Heap) (Q : V → Heap → Prop) : Prop :=
  pBox 158 x0 H0 fun v0 H1 =>
  pBox 158 x1 H1 fun v2 H3 =>
  pBox 158 (V.agg [(V.int .i64 0), (V.int .i64 0), (V.int .i64 0), (V.int .i64 0), (V.int .i64 0), (V.int .i64 0), (V.int .i64 0)]) H3 fun v4 H5 =>
  pFa 0 1 v0 fun v6 =>
  pLoad false 1 v6 H5 fun v7 =>
  pFa 0 1 v2 fun v8 =>
  pLoad false 1 v8 H5 fun v9 =>
  pBin EK.other BinOp.add v7 v9 H5 fun v10 =>
  pFa 1 1 v0 fun v11 =>
  pLoad false 1 v11 H5 fun v12 =>
  pFa 1 1 v2 fun v13 =>
  pLoad false 1 v13 H5 fun v14 =>
  pBin EK.other BinOp.add v12 v14 H5 fun v15 =>
  pFa 2 1 v0 fun v16 =>
  pLoad false 1 v16 H5 fun v17 =>
  pFa 2 1 v2 fun v18 =>
  pLoad false 1 v18 H5 fun v19 =>
  pBin EK.other BinOp.add v17 v19 H5 fun v20 =>
  pFa 3 1 v0 fun v21 =>
  pLoad false 1 v21 H5 fun v22 =>
  pFa 3 1 v2 fun v23 =>
  pLoad false 1 v23 H5 fun v24 =>
  pBin EK.other BinOp.add v22 v24 H5 fun v25 =>
  pFa 4 1 v0 fun v26 =>
  pLoad false 1 v26 H5 fun v27 =>
  pFa 4 1 v2 fun v28 =>
  pLoad false 1 v28 H5 fun v29 =>
  pBin EK.other BinOp.add v27 v29 H5 fun v30 =>
  pFa 5 1 v0 fun v31 =>
  pLoad false 1 v31 H5 fun v32 =>
  pFa 5 1 v2 fun v33 =>
  pLoad false 1 v33 H5 fun v34 =>
  pBin EK.other BinOp.add v32 v34 H5 fun v35 =>
  pFa 6 1 v0 fun v36 =>
  pLoad false 1 v36 H5 fun v37 =>
  pFa 6 1 v2 fun v38 =>
  pLoad false 1 v38 H5 fun v39 =>
  pBin EK.other BinOp.add v37 v39 H5 fun v40 =>
  pBuild [(V.int .i64 0), (V.int .i64 0), (V.int .i64 0), (V.int .i64 0), (V.int .i64 0), (V.int .i64 0), (V.int .i64 0)] [(.mk 0 (.mk 1 v10)), (.mk 1 (.mk 1 v15)), (.mk 2 (.mk 1 v20)), (.mk 3 (.mk 1 v25)), (.mk 4 (.mk 1 v30)), (.mk 5 (.mk 1 v35)), (.mk 6 (.mk 1 v40))] fun v41 =>
  pSt 7 v4 v41 H5 fun H43 =>
  pLoad true 7 v4 H43 fun v45 =>
  pWk (List.length H0) [v45] H43 fun xs46 H47 => (Q (nthV xs46 0) H47)
def h296 : Nat → Option (List Nat)
  | _ => none
theorem c296 {x0 x1 : V} {H0 : Heap} {Q : V → Heap → Prop} (h : t296 x0 x1 H0 Q) : Ct Try.prog 296 [x0, x1] H0 Q :=
  Ct_of_text (fn := Try.f296) h296 (by kernel_rfl) (by kernel_rfl) (by kernel_rfl) (by kernel_rfl) h

end Go.Sim
