/- The texts of the functions that measure, copy and compare, and of the reference for books and protests. -/
import Derived.Test.YtahdgiaddhoaoaaSimC
import Derived.Test.YtahdgiaddhoaoaaProg

set_option maxRecDepth 100000
namespace Go.Sim
open Go.Proofs

def t42 (x0 x1 : V) (H0 : Heap) (Q : V → Heap → Prop) : Prop :=
  pLn false x0 fun v0 =>
  pBin EK.other BinOp.sub x1 v0 H0 fun v1 =>
  pBin EK.other BinOp.lss v1 (V.int .i64 0) H0 fun v2 =>
  cIf v2
    (pWk (List.length H0) [(V.int .i64 (-1))] H0 fun xs3 H4 => (Q (nthV xs3 0) H4))
    (∃ (I5 : List V → Heap → Prop) (m6 : List V → Heap → Nat), (pWk (List.length H0) [v1, (V.int .i64 0)] H0 fun xs9 H10 => (I5 xs9 H10)) ∧
      ∀ xs7 H8, I5 xs7 H8 →
      pLn false x0 fun v11 =>
      pBin EK.other BinOp.lss (xs7.getD 1 V.undef) v11 H8 fun v12 =>
      cIf v12
        (pIndexAddr 3 x0 (xs7.getD 1 V.undef) H8 fun v13 =>
        pLoad true 3 v13 H8 fun v14 =>
        pCall Try.prog 147 [v14, (xs7.getD 0 V.undef)] H8 fun v15 H16 =>
        pBin EK.other BinOp.lss v15 (V.int .i64 0) H16 fun v17 =>
        cIf v17
          (pWk (List.length H0) [(V.int .i64 (-1))] H16 fun xs18 H19 => (Q (nthV xs18 0) H19))
          (pBin EK.other BinOp.add (xs7.getD 1 V.undef) (V.int .i64 1) H16 fun v20 =>
          pWk (List.length H0) [v15, v20] H16 fun xs21 H22 => (I5 xs21 H22) ∧ m6 xs21 H22 < m6 xs7 H8))
        (pWk (List.length H0) [(xs7.getD 0 V.undef)] H8 fun xs23 H24 => (Q (nthV xs23 0) H24)))
def h42 : Nat → Option (List Nat)
  | 5 => some [1, 5]
  | _ => none
theorem c42 {x0 x1 : V} {H0 : Heap} {Q : V → Heap → Prop} (h : t42 x0 x1 H0 Q) : Ct Try.prog 42 [x0, x1] H0 Q :=
  Ct_of_text (fn := Try.f42) h42 (by kernel_rfl) (by kernel_rfl) (by kernel_rfl) (by kernel_rfl) h

def t45 (x0 : V) (H0 : Heap) (Q : V → Heap → Prop) : Prop :=
  pLn false x0 fun v0 =>
  pMk 178 3 32 (V.agg [(V.str ({ data := #[] })), (V.int .i64 0), (V.int .i64 0)]) v0 v0 H0 fun v1 H2 =>
  ∃ (I3 : List V → Heap → Prop) (m4 : List V → Heap → Nat), (pWk (List.length H2) [(V.int .i64 0)] H2 fun xs7 H8 => (I3 xs7 H8)) ∧
    ∀ xs5 H6, I3 xs5 H6 →
    pLn false x0 fun v9 =>
    pBin EK.other BinOp.lss (xs5.getD 0 V.undef) v9 H6 fun v10 =>
    cIf v10
      (pIndexAddr 3 x0 (xs5.getD 0 V.undef) H6 fun v11 =>
      pLoad true 3 v11 H6 fun v12 =>
      pCall Try.prog 153 [v12] H6 fun v13 H14 =>
      pIndexAddr 3 v1 (xs5.getD 0 V.undef) H14 fun v15 =>
      pSt 3 v15 v13 H14 fun H17 =>
      pBin EK.other BinOp.add (xs5.getD 0 V.undef) (V.int .i64 1) H17 fun v19 =>
      pWk (List.length H2) [v19] H17 fun xs20 H21 => (I3 xs20 H21) ∧ m4 xs20 H21 < m4 xs5 H6)
      (pWk (List.length H0) [v1] H6 fun xs22 H23 => (Q (nthV xs22 0) H23))
def h45 : Nat → Option (List Nat)
  | 3 => some [4]
  | _ => none
theorem c45 {x0 : V} {H0 : Heap} {Q : V → Heap → Prop} (h : t45 x0 H0 Q) : Ct Try.prog 45 [x0] H0 Q :=
  Ct_of_text (fn := Try.f45) h45 (by kernel_rfl) (by kernel_rfl) (by kernel_rfl) (by kernel_rfl) h

def t47 (x0 : V) (H0 : Heap) (Q : V → Heap → Prop) : Prop :=
  pLn false x0 fun v0 =>
  pMk 3 1 8 (V.int .i64 0) v0 v0 H0 fun v1 H2 =>
  ∃ (I3 : List V → Heap → Prop) (m4 : List V → Heap → Nat), (pWk (List.length H2) [(V.int .i64 0)] H2 fun xs7 H8 => (I3 xs7 H8)) ∧
    ∀ xs5 H6, I3 xs5 H6 →
    pLn false x0 fun v9 =>
    pBin EK.other BinOp.lss (xs5.getD 0 V.undef) v9 H6 fun v10 =>
    cIf v10
      (pIndexAddr 1 x0 (xs5.getD 0 V.undef) H6 fun v11 =>
      pLoad false 1 v11 H6 fun v12 =>
      pIndexAddr 1 v1 (xs5.getD 0 V.undef) H6 fun v13 =>
      pSt 1 v13 v12 H6 fun H15 =>
      pBin EK.other BinOp.add (xs5.getD 0 V.undef) (V.int .i64 1) H15 fun v17 =>
      pWk (List.length H2) [v17] H15 fun xs18 H19 => (I3 xs18 H19) ∧ m4 xs18 H19 < m4 xs5 H6)
      (pWk (List.length H0) [v1] H6 fun xs20 H21 => (Q (nthV xs20 0) H21))
def h47 : Nat → Option (List Nat)
  | 3 => some [4]
  | _ => none
theorem c47 {x0 : V} {H0 : Heap} {Q : V → Heap → Prop} (h : t47 x0 H0 Q) : Ct Try.prog 47 [x0] H0 Q :=
  Ct_of_text (fn := Try.f47) h47 (by kernel_rfl) (by kernel_rfl) (by kernel_rfl) (by kernel_rfl) h

def t48 (x0 x1 : V) (H0 : Heap) (Q : V → Heap → Prop) : Prop :=
  pLn false x0 fun v0 =>
  pLn false x1 fun v1 =>
  pBin EK.other BinOp.neq v0 v1 H0 fun v2 =>
  cIf v2
    (pWk (List.length H0) [(V.bool false)] H0 fun xs3 H4 => (Q (nthV xs3 0) H4))
    (∃ (I5 : List V → Heap → Prop) (m6 : List V → Heap → Nat), (pWk (List.length H0) [(V.int .i64 0)] H0 fun xs9 H10 => (I5 xs9 H10)) ∧
      ∀ xs7 H8, I5 xs7 H8 →
      pLn false x0 fun v11 =>
      pBin EK.other BinOp.lss (xs7.getD 0 V.undef) v11 H8 fun v12 =>
      cIf v12
        (pIndexAddr 3 x0 (xs7.getD 0 V.undef) H8 fun v13 =>
        pLoad true 3 v13 H8 fun v14 =>
        pIndexAddr 3 x1 (xs7.getD 0 V.undef) H8 fun v15 =>
        pLoad true 3 v15 H8 fun v16 =>
        pCall Try.prog 155 [v14, v16] H8 fun v17 H18 =>
        True ∧ pNot v17 fun v19 =>
        cIf v19
          (pWk (List.length H0) [(V.bool false)] H18 fun xs20 H21 => (Q (nthV xs20 0) H21))
          (pBin EK.other BinOp.add (xs7.getD 0 V.undef) (V.int .i64 1) H18 fun v22 =>
          pWk (List.length H0) [v22] H18 fun xs23 H24 => (I5 xs23 H24) ∧ m6 xs23 H24 < m6 xs7 H8))
        (pWk (List.length H0) [(V.bool true)] H8 fun xs25 H26 => (Q (nthV xs25 0) H26)))
def h48 : Nat → Option (List Nat)
  | 4 => some [5]
  | _ => none
theorem c48 {x0 x1 : V} {H0 : Heap} {Q : V → Heap → Prop} (h : t48 x0 x1 H0 Q) : Ct Try.prog 48 [x0, x1] H0 Q :=
  Ct_of_text (fn := Try.f48) h48 (by kernel_rfl) (by kernel_rfl) (by kernel_rfl) (by kernel_rfl) h

def t50 (x0 x1 : V) (H0 : Heap) (Q : V → Heap → Prop) : Prop :=
  pLn false x0 fun v0 =>
  pLn false x1 fun v1 =>
  pBin EK.other BinOp.neq v0 v1 H0 fun v2 =>
  cIf v2
    (pWk (List.length H0) [(V.bool false)] H0 fun xs3 H4 => (Q (nthV xs3 0) H4))
    (∃ (I5 : List V → Heap → Prop) (m6 : List V → Heap → Nat), (pWk (List.length H0) [(V.int .i64 0)] H0 fun xs9 H10 => (I5 xs9 H10)) ∧
      ∀ xs7 H8, I5 xs7 H8 →
      pLn false x0 fun v11 =>
      pBin EK.other BinOp.lss (xs7.getD 0 V.undef) v11 H8 fun v12 =>
      cIf v12
        (pIndexAddr 1 x0 (xs7.getD 0 V.undef) H8 fun v13 =>
        pLoad false 1 v13 H8 fun v14 =>
        pIndexAddr 1 x1 (xs7.getD 0 V.undef) H8 fun v15 =>
        pLoad false 1 v15 H8 fun v16 =>
        pBin EK.other BinOp.neq v14 v16 H8 fun v17 =>
        cIf v17
          (pWk (List.length H0) [(V.bool false)] H8 fun xs18 H19 => (Q (nthV xs18 0) H19))
          (pBin EK.other BinOp.add (xs7.getD 0 V.undef) (V.int .i64 1) H8 fun v20 =>
          pWk (List.length H0) [v20] H8 fun xs21 H22 => (I5 xs21 H22) ∧ m6 xs21 H22 < m6 xs7 H8))
        (pWk (List.length H0) [(V.bool true)] H8 fun xs23 H24 => (Q (nthV xs23 0) H24)))
def h50 : Nat → Option (List Nat)
  | 4 => some [5]
  | _ => none
theorem c50 {x0 x1 : V} {H0 : Heap} {Q : V → Heap → Prop} (h : t50 x0 x1 H0 Q) : Ct Try.prog 50 [x0, x1] H0 Q :=
  Ct_of_text (fn := Try.f50) h50 (by kernel_rfl) (by kernel_rfl) (by kernel_rfl) (by kernel_rfl) h

def t56 (x0 x1 : V) (H0 : Heap) (Q : V → Heap → Prop) : Prop :=
  pBox 84 x0 H0 fun v0 H1 =>
  pFa 0 1 v0 fun v2 =>
  pLoad false 1 v2 H1 fun v3 =>
  pCall Try.prog 42 [v3, x1] H1 fun v4 H5 =>
  pBin EK.other BinOp.lss v4 (V.int .i64 0) H5 fun v6 =>
  cIf v6
    (pWk (List.length H0) [(V.int .i64 (-1))] H5 fun xs7 H8 => (Q (nthV xs7 0) H8))
    (pFa 1 5 v0 fun v9 =>
    pLoad true 5 v9 H5 fun v10 =>
    pCall Try.prog 171 [v10, v4] H5 fun v11 H12 =>
    pBin EK.other BinOp.lss v11 (V.int .i64 0) H12 fun v13 =>
    cIf v13
      (pWk (List.length H0) [(V.int .i64 (-1))] H12 fun xs14 H15 => (Q (nthV xs14 0) H15))
      (pFa 6 1 v0 fun v16 =>
      pLoad false 1 v16 H12 fun v17 =>
      pCall Try.prog 172 [v17, v11] H12 fun v18 H19 =>
      pBin EK.other BinOp.lss v18 (V.int .i64 0) H19 fun v20 =>
      cIf v20
        (pWk (List.length H0) [(V.int .i64 (-1))] H19 fun xs21 H22 => (Q (nthV xs21 0) H22))
        (pFa 7 1 v0 fun v23 =>
        pLoad false 1 v23 H19 fun v24 =>
        pCall Try.prog 173 [v24, v18] H19 fun v25 H26 =>
        pBin EK.other BinOp.lss v25 (V.int .i64 0) H26 fun v27 =>
        cIf v27
          (pWk (List.length H0) [(V.int .i64 (-1))] H26 fun xs28 H29 => (Q (nthV xs28 0) H29))
          (pFa 8 1 v0 fun v30 =>
          pLoad false 1 v30 H26 fun v31 =>
          pCall Try.prog 173 [v31, v25] H26 fun v32 H33 =>
          pBin EK.other BinOp.lss v32 (V.int .i64 0) H33 fun v34 =>
          cIf v34
            (pWk (List.length H0) [(V.int .i64 (-1))] H33 fun xs35 H36 => (Q (nthV xs35 0) H36))
            (pWk (List.length H0) [v32] H33 fun xs37 H38 => (Q (nthV xs37 0) H38))))))
def h56 : Nat → Option (List Nat)
  | _ => none
theorem c56 {x0 x1 : V} {H0 : Heap} {Q : V → Heap → Prop} (h : t56 x0 x1 H0 Q) : Ct Try.prog 56 [x0, x1] H0 Q :=
  Ct_of_text (fn := Try.f56) h56 (by kernel_rfl) (by kernel_rfl) (by kernel_rfl) (by kernel_rfl) h

def t57 (x0 x1 x2 : V) (H0 : Heap) (Q : V → Heap → Prop) : Prop :=
  pBox 29 x0 H0 fun v0 H1 =>
  pBox 90 x1 H1 fun v2 H3 =>
  pBox 90 x2 H3 fun v4 H5 =>
  pLoad true 9 v0 H5 fun v6 =>
  pLoad true 3 v2 H5 fun v7 =>
  pLoad true 3 v4 H5 fun v8 =>
  pBs 90 3 (V.agg [(V.int .i64 0), (V.int .i64 0), (V.bool false)]) 2 [0, 1] [v7, v8] H5 fun v9 H10 =>
  pCall Try.prog 94 [v6, v9] H10 fun v11 H12 =>
  pTup v11 0 fun v13 =>
  pTup v11 1 fun v14 =>
  pBox 29 (V.agg [(V.sl false 3 []), (V.int .i64 0), (V.int .i64 0), (V.int .i64 0), (V.sl false 1 []), (V.bool false), (V.sl false 5 []), (V.sl false 1 []), (V.sl false 1 [])]) H12 fun v15 H16 =>
  pSt 9 v15 v13 H16 fun H18 =>
  pLoad true 9 v0 H18 fun v20 =>
  pLoad true 3 v4 H18 fun v21 =>
  pLoad true 3 v2 H18 fun v22 =>
  pBs 90 3 (V.agg [(V.int .i64 0), (V.int .i64 0), (V.bool false)]) 2 [0, 1] [v21, v22] H18 fun v23 H24 =>
  pCall Try.prog 94 [v20, v23] H24 fun v25 H26 =>
  pTup v25 0 fun v27 =>
  pTup v25 1 fun v28 =>
  pBox 29 (V.agg [(V.sl false 3 []), (V.int .i64 0), (V.int .i64 0), (V.int .i64 0), (V.sl false 1 []), (V.bool false), (V.sl false 5 []), (V.sl false 1 []), (V.sl false 1 [])]) H26 fun v29 H30 =>
  pSt 9 v29 v27 H30 fun H32 =>
  cIf v14
    (cIf v28
      (pLoad true 9 v15 H32 fun v34 =>
      pLoad true 9 v29 H32 fun v35 =>
      pCall Try.prog 174 [v34, v35] H32 fun v36 H37 =>
      pLn false v36 fun v38 =>
      pBin EK.other BinOp.gtr v38 (V.int .i64 0) H37 fun v39 =>
      pWk (List.length H0) [v39] H37 fun xs40 H41 => (Q (nthV xs40 0) H41))
      (pWk (List.length H0) [(V.bool false)] H32 fun xs42 H43 => (Q (nthV xs42 0) H43)))
    (pWk (List.length H0) [(V.bool false)] H32 fun xs44 H45 => (Q (nthV xs44 0) H45))
def h57 : Nat → Option (List Nat)
  | _ => none
theorem c57 {x0 x1 x2 : V} {H0 : Heap} {Q : V → Heap → Prop} (h : t57 x0 x1 x2 H0 Q) : Ct Try.prog 57 [x0, x1, x2] H0 Q :=
  Ct_of_text (fn := Try.f57) h57 (by kernel_rfl) (by kernel_rfl) (by kernel_rfl) (by kernel_rfl) h

def t58 (x0 : V) (H0 : Heap) (Q : V → Heap → Prop) : Prop :=
  pBox 84 x0 H0 fun v0 H1 =>
  pBox 29 (V.agg [(V.sl false 3 []), (V.int .i64 0), (V.int .i64 0), (V.int .i64 0), (V.sl false 1 []), (V.bool false), (V.sl false 5 []), (V.sl false 1 []), (V.sl false 1 [])]) H1 fun v2 H3 =>
  pBox 29 (V.agg [(V.sl false 3 []), (V.int .i64 0), (V.int .i64 0), (V.int .i64 0), (V.sl false 1 []), (V.bool false), (V.sl false 5 []), (V.sl false 1 []), (V.sl false 1 [])]) H3 fun v4 H5 =>
  pFa 0 1 v0 fun v6 =>
  pLoad false 1 v6 H5 fun v7 =>
  pCall Try.prog 45 [v7] H5 fun v8 H9 =>
  pFa 0 1 v4 fun v10 =>
  pSt 1 v10 v8 H9 fun H12 =>
  pFa 1 5 v0 fun v14 =>
  pLoad true 5 v14 H12 fun v15 =>
  pCall Try.prog 175 [v15] H12 fun v16 H17 =>
  pFa 1 5 v4 fun v18 =>
  pSt 5 v18 v16 H17 fun H20 =>
  pFa 6 1 v0 fun v22 =>
  pLoad false 1 v22 H20 fun v23 =>
  pCall Try.prog 176 [v23] H20 fun v24 H25 =>
  pFa 6 1 v4 fun v26 =>
  pSt 1 v26 v24 H25 fun H28 =>
  pFa 7 1 v0 fun v30 =>
  pLoad false 1 v30 H28 fun v31 =>
  pCall Try.prog 47 [v31] H28 fun v32 H33 =>
  pFa 7 1 v4 fun v34 =>
  pSt 1 v34 v32 H33 fun H36 =>
  pFa 8 1 v0 fun v38 =>
  pLoad false 1 v38 H36 fun v39 =>
  pCall Try.prog 47 [v39] H36 fun v40 H41 =>
  pFa 8 1 v4 fun v42 =>
  pSt 1 v42 v40 H41 fun H44 =>
  pLoad true 9 v4 H44 fun v46 =>
  pSt 9 v2 v46 H44 fun H48 =>
  pLoad true 9 v2 H48 fun v50 =>
  pWk (List.length H0) [v50] H48 fun xs51 H52 => (Q (nthV xs51 0) H52)
def h58 : Nat → Option (List Nat)
  | _ => none
theorem c58 {x0 : V} {H0 : Heap} {Q : V → Heap → Prop} (h : t58 x0 H0 Q) : Ct Try.prog 58 [x0] H0 Q :=
  Ct_of_text (fn := Try.f58) h58 (by kernel_rfl) (by kernel_rfl) (by kernel_rfl) (by kernel_rfl) h

def t59 (x0 : V) (H0 : Heap) (Q : V → Heap → Prop) : Prop :=
  pBox 86 x0 H0 fun v0 H1 =>
  pBox 90 (V.agg [(V.int .i64 0), (V.int .i64 0), (V.bool false)]) H1 fun v2 H3 =>
  pBox 90 (V.agg [(V.int .i64 0), (V.int .i64 0), (V.bool false)]) H3 fun v4 H5 =>
  pFa 0 1 v0 fun v6 =>
  pLoad false 1 v6 H5 fun v7 =>
  pFa 0 1 v4 fun v8 =>
  pSt 1 v8 v7 H5 fun H10 =>
  pFa 1 1 v0 fun v12 =>
  pLoad false 1 v12 H10 fun v13 =>
  pFa 1 1 v4 fun v14 =>
  pSt 1 v14 v13 H10 fun H16 =>
  pFa 2 1 v0 fun v18 =>
  pLoad false 1 v18 H16 fun v19 =>
  pFa 2 1 v4 fun v20 =>
  pSt 1 v20 v19 H16 fun H22 =>
  pLoad true 3 v4 H22 fun v24 =>
  pSt 3 v2 v24 H22 fun H26 =>
  pLoad true 3 v2 H26 fun v28 =>
  pWk (List.length H0) [v28] H26 fun xs29 H30 => (Q (nthV xs29 0) H30)
def h59 : Nat → Option (List Nat)
  | _ => none
theorem c59 {x0 : V} {H0 : Heap} {Q : V → Heap → Prop} (h : t59 x0 H0 Q) : Ct Try.prog 59 [x0] H0 Q :=
  Ct_of_text (fn := Try.f59) h59 (by kernel_rfl) (by kernel_rfl) (by kernel_rfl) (by kernel_rfl) h

def t60 (x0 x1 x2 : V) (H0 : Heap) (Q : V → Heap → Prop) : Prop :=
  pBox 29 x0 H0 fun v0 H1 =>
  pBox 90 x1 H1 fun v2 H3 =>
  pBox 90 x2 H3 fun v4 H5 =>
  pLoad true 9 v0 H5 fun v6 =>
  pLoad true 3 v2 H5 fun v7 =>
  pLoad true 3 v4 H5 fun v8 =>
  pBs 90 3 (V.agg [(V.int .i64 0), (V.int .i64 0), (V.bool false)]) 2 [0, 1] [v7, v8] H5 fun v9 H10 =>
  pCall Try.prog 65 [v6, v9] H10 fun v11 H12 =>
  pTup v11 0 fun v13 =>
  pTup v11 1 fun v14 =>
  pBox 29 (V.agg [(V.sl false 3 []), (V.int .i64 0), (V.int .i64 0), (V.int .i64 0), (V.sl false 1 []), (V.bool false), (V.sl false 5 []), (V.sl false 1 []), (V.sl false 1 [])]) H12 fun v15 H16 =>
  pSt 9 v15 v13 H16 fun H18 =>
  pLoad true 9 v0 H18 fun v20 =>
  pLoad true 3 v4 H18 fun v21 =>
  pLoad true 3 v2 H18 fun v22 =>
  pBs 90 3 (V.agg [(V.int .i64 0), (V.int .i64 0), (V.bool false)]) 2 [0, 1] [v21, v22] H18 fun v23 H24 =>
  pCall Try.prog 65 [v20, v23] H24 fun v25 H26 =>
  pTup v25 0 fun v27 =>
  pTup v25 1 fun v28 =>
  pBox 29 (V.agg [(V.sl false 3 []), (V.int .i64 0), (V.int .i64 0), (V.int .i64 0), (V.sl false 1 []), (V.bool false), (V.sl false 5 []), (V.sl false 1 []), (V.sl false 1 [])]) H26 fun v29 H30 =>
  pSt 9 v29 v27 H30 fun H32 =>
  cIf v14
    (cIf v28
      (pLoad true 9 v15 H32 fun v34 =>
      pLoad true 9 v29 H32 fun v35 =>
      pCall Try.prog 26 [v34, v35] H32 fun v36 H37 =>
      pLn false v36 fun v38 =>
      pBin EK.other BinOp.gtr v38 (V.int .i64 0) H37 fun v39 =>
      pWk (List.length H0) [v39] H37 fun xs40 H41 => (Q (nthV xs40 0) H41))
      (pWk (List.length H0) [(V.bool false)] H32 fun xs42 H43 => (Q (nthV xs42 0) H43)))
    (pWk (List.length H0) [(V.bool false)] H32 fun xs44 H45 => (Q (nthV xs44 0) H45))
def h60 : Nat → Option (List Nat)
  | _ => none
theorem c60 {x0 x1 x2 : V} {H0 : Heap} {Q : V → Heap → Prop} (h : t60 x0 x1 x2 H0 Q) : Ct Try.prog 60 [x0, x1, x2] H0 Q :=
  Ct_of_text (fn := Try.f60) h60 (by kernel_rfl) (by kernel_rfl) (by kernel_rfl) (by kernel_rfl) h

def t61 (x0 x1 : V) (H0 : Heap) (Q : V → Heap → Prop) : Prop :=
  pBox 29 x0 H0 fun v0 H1 =>
  pBox 29 x1 H1 fun v2 H3 =>
  pFa 0 1 v0 fun v4 =>
  pLoad false 1 v4 H3 fun v5 =>
  pFa 0 1 v2 fun v6 =>
  pLoad false 1 v6 H3 fun v7 =>
  pCall Try.prog 48 [v5, v7] H3 fun v8 H9 =>
  pNot v8 fun v10 =>
  cIf v10
    (pWk (List.length H0) [(V.bool false)] H9 fun xs11 H12 => (Q (nthV xs11 0) H12))
    (pFa 1 5 v0 fun v13 =>
    pLoad true 5 v13 H9 fun v14 =>
    pFa 1 5 v2 fun v15 =>
    pLoad true 5 v15 H9 fun v16 =>
    pCall Try.prog 177 [v14, v16] H9 fun v17 H18 =>
    pNot v17 fun v19 =>
    cIf v19
      (pWk (List.length H0) [(V.bool false)] H18 fun xs20 H21 => (Q (nthV xs20 0) H21))
      (pFa 6 1 v0 fun v22 =>
      pLoad false 1 v22 H18 fun v23 =>
      pFa 6 1 v2 fun v24 =>
      pLoad false 1 v24 H18 fun v25 =>
      pCall Try.prog 178 [v23, v25] H18 fun v26 H27 =>
      pNot v26 fun v28 =>
      cIf v28
        (pWk (List.length H0) [(V.bool false)] H27 fun xs29 H30 => (Q (nthV xs29 0) H30))
        (pFa 7 1 v0 fun v31 =>
        pLoad false 1 v31 H27 fun v32 =>
        pFa 7 1 v2 fun v33 =>
        pLoad false 1 v33 H27 fun v34 =>
        pCall Try.prog 50 [v32, v34] H27 fun v35 H36 =>
        pNot v35 fun v37 =>
        cIf v37
          (pWk (List.length H0) [(V.bool false)] H36 fun xs38 H39 => (Q (nthV xs38 0) H39))
          (pFa 8 1 v0 fun v40 =>
          pLoad false 1 v40 H36 fun v41 =>
          pFa 8 1 v2 fun v42 =>
          pLoad false 1 v42 H36 fun v43 =>
          pCall Try.prog 50 [v41, v43] H36 fun v44 H45 =>
          pNot v44 fun v46 =>
          cIf v46
            (pWk (List.length H0) [(V.bool false)] H45 fun xs47 H48 => (Q (nthV xs47 0) H48))
            (pWk (List.length H0) [(V.bool true)] H45 fun xs49 H50 => (Q (nthV xs49 0) H50))))))
def h61 : Nat → Option (List Nat)
  | _ => none
theorem c61 {x0 x1 : V} {H0 : Heap} {Q : V → Heap → Prop} (h : t61 x0 x1 H0 Q) : Ct Try.prog 61 [x0, x1] H0 Q :=
  Ct_of_text (fn := Try.f61) h61 (by kernel_rfl) (by kernel_rfl) (by kernel_rfl) (by kernel_rfl) h

def t63 (x0 x1 : V) (H0 : Heap) (Q : V → Heap → Prop) : Prop :=
  pBox 29 x0 H0 fun v0 H1 =>
  pBox 90 x1 H1 fun v2 H3 =>
  pLoad true 9 v0 H3 fun v4 =>
  pCall Try.prog 22 [v4] H3 fun v5 H6 =>
  True ∧ cIf v5
    (pFa 1 1 v2 fun v7 =>
    pLoad false 1 v7 H6 fun v8 =>
    pFa 6 1 v0 fun v9 =>
    pLoad false 1 v9 H6 fun v10 =>
    pLn false v10 fun v11 =>
    pBin EK.other BinOp.sub v11 (V.int .i64 1) H6 fun v12 =>
    pCall Try.prog 139 [v8, (V.int .i64 0), v12] H6 fun v13 H14 =>
    True ∧ cIf v13
      (pFa 6 1 v0 fun v15 =>
      pLoad false 1 v15 H14 fun v16 =>
      pFa 1 1 v2 fun v17 =>
      pLoad false 1 v17 H14 fun v18 =>
      pIndexAddr 5 v16 v18 H14 fun v19 =>
      pFa 4 1 v19 fun v20 =>
      pLoad false 1 v20 H14 fun v21 =>
      pCall Try.prog 139 [v21, (V.int .i64 1), (V.int .i64 3)] H14 fun v22 H23 =>
      True ∧ cIf v22
        (pFa 6 1 v0 fun v24 =>
        pLoad false 1 v24 H23 fun v25 =>
        pFa 1 1 v2 fun v26 =>
        pLoad false 1 v26 H23 fun v27 =>
        pIndexAddr 5 v25 v27 H23 fun v28 =>
        pLoad true 5 v28 H23 fun v29 =>
        pFa 0 1 v2 fun v30 =>
        pLoad false 1 v30 H23 fun v31 =>
        pCall Try.prog 120 [v29, v31] H23 fun v32 H33 =>
        True ∧ pWk (List.length H0) [v32] H33 fun xs34 H35 => (Q (nthV xs34 0) H35))
        (True ∧ pWk (List.length H0) [(V.bool false)] H23 fun xs36 H37 => (Q (nthV xs36 0) H37)))
      (True ∧ True ∧ pWk (List.length H0) [(V.bool false)] H14 fun xs38 H39 => (Q (nthV xs38 0) H39)))
    (True ∧ True ∧ True ∧ pWk (List.length H0) [(V.bool false)] H6 fun xs40 H41 => (Q (nthV xs40 0) H41))
def h63 : Nat → Option (List Nat)
  | _ => none
theorem c63 {x0 x1 : V} {H0 : Heap} {Q : V → Heap → Prop} (h : t63 x0 x1 H0 Q) : Ct Try.prog 63 [x0, x1] H0 Q :=
  Ct_of_text (fn := Try.f63) h63 (by kernel_rfl) (by kernel_rfl) (by kernel_rfl) (by kernel_rfl) h

def t65 (x0 x1 : V) (H0 : Heap) (Q : V → Heap → Prop) : Prop :=
  pBox 29 x0 H0 fun v0 H1 =>
  pBox 29 (V.agg [(V.sl false 3 []), (V.int .i64 0), (V.int .i64 0), (V.int .i64 0), (V.sl false 1 []), (V.bool false), (V.sl false 5 []), (V.sl false 1 []), (V.sl false 1 [])]) H1 fun v2 H3 =>
  pLoad true 9 v0 H3 fun v4 =>
  pCall Try.prog 22 [v4] H3 fun v5 H6 =>
  pNot v5 fun v7 =>
  cIf v7
    (pBuild [(V.sl false 3 []), (V.int .i64 0), (V.int .i64 0), (V.int .i64 0), (V.sl false 1 []), (V.bool false), (V.sl false 5 []), (V.sl false 1 []), (V.sl false 1 [])] [] fun v8 =>
    pSt 9 v2 v8 H6 fun H10 =>
    pLoad true 9 v2 H10 fun v12 =>
    pWk (List.length H0) [(V.tup [v12, (V.bool false)])] H10 fun xs13 H14 => (Q (nthV xs13 0) H14))
    (pLn false x1 fun v15 =>
    pBin EK.other BinOp.gtr v15 (V.int .i64 6) H6 fun v16 =>
    cIf v16
      (pBuild [(V.sl false 3 []), (V.int .i64 0), (V.int .i64 0), (V.int .i64 0), (V.sl false 1 []), (V.bool false), (V.sl false 5 []), (V.sl false 1 []), (V.sl false 1 [])] [] fun v17 =>
      pSt 9 v2 v17 H6 fun H19 =>
      pLoad true 9 v2 H19 fun v21 =>
      pWk (List.length H0) [(V.tup [v21, (V.bool false)])] H19 fun xs22 H23 => (Q (nthV xs22 0) H23))
      (pLoad true 9 v0 H6 fun v24 =>
      pCall Try.prog 119 [v24] H6 fun v25 H26 =>
      pBox 29 (V.agg [(V.sl false 3 []), (V.int .i64 0), (V.int .i64 0), (V.int .i64 0), (V.sl false 1 []), (V.bool false), (V.sl false 5 []), (V.sl false 1 []), (V.sl false 1 [])]) H26 fun v27 H28 =>
      pSt 9 v27 v25 H28 fun H30 =>
      pLn false x1 fun v32 =>
      ∃ (I33 : List V → Heap → Prop) (m34 : List V → Heap → Nat), (pWk (List.length H30) [(V.int .i64 0)] H30 fun xs37 H38 => (I33 xs37 H38)) ∧
        ∀ xs35 H36, I33 xs35 H36 →
        pBin EK.other BinOp.lss (xs35.getD 0 V.undef) v32 H36 fun v39 =>
        cIf v39
          (pIndexAddr 3 x1 (xs35.getD 0 V.undef) H36 fun v40 =>
          pLoad true 3 v40 H36 fun v41 =>
          pBox 90 (V.agg [(V.int .i64 0), (V.int .i64 0), (V.bool false)]) H36 fun v42 H43 =>
          pSt 3 v42 v41 H43 fun H45 =>
          pLoad true 9 v0 H45 fun v47 =>
          pLoad true 3 v42 H45 fun v48 =>
          pCall Try.prog 63 [v47, v48] H45 fun v49 H50 =>
          pNot v49 fun v51 =>
          cIf v51
            (pBuild [(V.sl false 3 []), (V.int .i64 0), (V.int .i64 0), (V.int .i64 0), (V.sl false 1 []), (V.bool false), (V.sl false 5 []), (V.sl false 1 []), (V.sl false 1 [])] [] fun v52 =>
            pSt 9 v2 v52 H50 fun H54 =>
            pLoad true 9 v2 H54 fun v56 =>
            pWk (List.length H0) [(V.tup [v56, (V.bool false)])] H54 fun xs57 H58 => (Q (nthV xs57 0) H58))
            (pFa 6 1 v27 fun v59 =>
            pLoad false 1 v59 H50 fun v60 =>
            pFa 1 1 v42 fun v61 =>
            pLoad false 1 v61 H50 fun v62 =>
            pFa 6 1 v0 fun v63 =>
            pLoad false 1 v63 H50 fun v64 =>
            pFa 1 1 v42 fun v65 =>
            pLoad false 1 v65 H50 fun v66 =>
            pIndexAddr 5 v64 v66 H50 fun v67 =>
            pLoad true 5 v67 H50 fun v68 =>
            pIndexAddr 5 v60 v62 H50 fun v69 =>
            pSt 5 v69 v68 H50 fun H71 =>
            True ∧ pFa 2 1 v42 fun v73 =>
            pLoad false 1 v73 H71 fun v74 =>
            cIf v74
              (pFa 6 1 v27 fun v75 =>
              pLoad false 1 v75 H71 fun v76 =>
              pFa 1 1 v42 fun v77 =>
              pLoad false 1 v77 H71 fun v78 =>
              pFa 6 1 v0 fun v79 =>
              pLoad false 1 v79 H71 fun v80 =>
              pFa 1 1 v42 fun v81 =>
              pLoad false 1 v81 H71 fun v82 =>
              pIndexAddr 5 v80 v82 H71 fun v83 =>
              pLoad true 5 v83 H71 fun v84 =>
              pFa 0 1 v42 fun v85 =>
              pLoad false 1 v85 H71 fun v86 =>
              pCall Try.prog 121 [v84, v86] H71 fun v87 H88 =>
              (keepV v77 H71 H88 ∧ (keepV v75 H71 H88 ∧ True)) ∧ pIndexAddr 5 v76 v78 H88 fun v89 =>
              pSt 5 v89 v87 H88 fun H91 =>
              True ∧ pBin EK.other BinOp.add (xs35.getD 0 V.undef) (V.int .i64 1) H91 fun v93 =>
              pWk (List.length H30) [v93] H91 fun xs94 H95 => (I33 xs94 H95) ∧ m34 xs94 H95 < m34 xs35 H36)
              (pBin EK.other BinOp.add (xs35.getD 0 V.undef) (V.int .i64 1) H71 fun v96 =>
              pWk (List.length H30) [v96] H71 fun xs97 H98 => (I33 xs97 H98) ∧ m34 xs97 H98 < m34 xs35 H36)))
          (pLoad true 9 v27 H36 fun v99 =>
          pSt 9 v2 v99 H36 fun H101 =>
          pLoad true 9 v2 H101 fun v103 =>
          pWk (List.length H0) [(V.tup [v103, (V.bool true)])] H101 fun xs104 H105 => (Q (nthV xs104 0) H105))))
def h65 : Nat → Option (List Nat)
  | 5 => some [22]
  | _ => none
theorem c65 {x0 x1 : V} {H0 : Heap} {Q : V → Heap → Prop} (h : t65 x0 x1 H0 Q) : Ct Try.prog 65 [x0, x1] H0 Q :=
  Ct_of_text (fn := Try.f65) h65 (by kernel_rfl) (by kernel_rfl) (by kernel_rfl) (by kernel_rfl) h

def t94 (x0 x1 : V) (H0 : Heap) (Q : V → Heap → Prop) : Prop :=
  pBox 29 x0 H0 fun v0 H1 =>
  pBox 29 (V.agg [(V.sl false 3 []), (V.int .i64 0), (V.int .i64 0), (V.int .i64 0), (V.sl false 1 []), (V.bool false), (V.sl false 5 []), (V.sl false 1 []), (V.sl false 1 [])]) H1 fun v2 H3 =>
  pLoad true 9 v0 H3 fun v4 =>
  pCall Try.prog 201 [v4] H3 fun v5 H6 =>
  pNot v5 fun v7 =>
  cIf v7
    (pBuild [(V.sl false 3 []), (V.int .i64 0), (V.int .i64 0), (V.int .i64 0), (V.sl false 1 []), (V.bool false), (V.sl false 5 []), (V.sl false 1 []), (V.sl false 1 [])] [] fun v8 =>
    pSt 9 v2 v8 H6 fun H10 =>
    pLoad true 9 v2 H10 fun v12 =>
    pWk (List.length H0) [(V.tup [v12, (V.bool false)])] H10 fun xs13 H14 => (Q (nthV xs13 0) H14))
    (pLn false x1 fun v15 =>
    pBin EK.other BinOp.gtr v15 (V.int .i64 6) H6 fun v16 =>
    cIf v16
      (pBuild [(V.sl false 3 []), (V.int .i64 0), (V.int .i64 0), (V.int .i64 0), (V.sl false 1 []), (V.bool false), (V.sl false 5 []), (V.sl false 1 []), (V.sl false 1 [])] [] fun v17 =>
      pSt 9 v2 v17 H6 fun H19 =>
      pLoad true 9 v2 H19 fun v21 =>
      pWk (List.length H0) [(V.tup [v21, (V.bool false)])] H19 fun xs22 H23 => (Q (nthV xs22 0) H23))
      (pLoad true 9 v0 H6 fun v24 =>
      pCall Try.prog 203 [v24] H6 fun v25 H26 =>
      pBox 29 (V.agg [(V.sl false 3 []), (V.int .i64 0), (V.int .i64 0), (V.int .i64 0), (V.sl false 1 []), (V.bool false), (V.sl false 5 []), (V.sl false 1 []), (V.sl false 1 [])]) H26 fun v27 H28 =>
      pSt 9 v27 v25 H28 fun H30 =>
      pLn false x1 fun v32 =>
      ∃ (I33 : List V → Heap → Prop) (m34 : List V → Heap → Nat), (pWk (List.length H30) [(V.int .i64 0)] H30 fun xs37 H38 => (I33 xs37 H38)) ∧
        ∀ xs35 H36, I33 xs35 H36 →
        pBin EK.other BinOp.lss (xs35.getD 0 V.undef) v32 H36 fun v39 =>
        cIf v39
          (pIndexAddr 3 x1 (xs35.getD 0 V.undef) H36 fun v40 =>
          pLoad true 3 v40 H36 fun v41 =>
          pBox 90 (V.agg [(V.int .i64 0), (V.int .i64 0), (V.bool false)]) H36 fun v42 H43 =>
          pSt 3 v42 v41 H43 fun H45 =>
          pLoad true 9 v0 H45 fun v47 =>
          pLoad true 3 v42 H45 fun v48 =>
          pCall Try.prog 211 [v47, v48] H45 fun v49 H50 =>
          pNot v49 fun v51 =>
          cIf v51
            (pBuild [(V.sl false 3 []), (V.int .i64 0), (V.int .i64 0), (V.int .i64 0), (V.sl false 1 []), (V.bool false), (V.sl false 5 []), (V.sl false 1 []), (V.sl false 1 [])] [] fun v52 =>
            pSt 9 v2 v52 H50 fun H54 =>
            pLoad true 9 v2 H54 fun v56 =>
            pWk (List.length H0) [(V.tup [v56, (V.bool false)])] H54 fun xs57 H58 => (Q (nthV xs57 0) H58))
            (pFa 2 1 v42 fun v59 =>
            pLoad false 1 v59 H50 fun v60 =>
            cIf v60
              (pFa 6 1 v27 fun v61 =>
              pLoad false 1 v61 H50 fun v62 =>
              pFa 1 1 v42 fun v63 =>
              pLoad false 1 v63 H50 fun v64 =>
              pFa 6 1 v0 fun v65 =>
              pLoad false 1 v65 H50 fun v66 =>
              pFa 1 1 v42 fun v67 =>
              pLoad false 1 v67 H50 fun v68 =>
              pIndexAddr 5 v66 v68 H50 fun v69 =>
              pLoad true 5 v69 H50 fun v70 =>
              pFa 0 1 v42 fun v71 =>
              pLoad false 1 v71 H50 fun v72 =>
              pCall Try.prog 204 [v70, v72] H50 fun v73 H74 =>
              (keepV v63 H50 H74 ∧ (keepV v61 H50 H74 ∧ True)) ∧ pIndexAddr 5 v62 v64 H74 fun v75 =>
              pSt 5 v75 v73 H74 fun H77 =>
              True ∧ pBin EK.other BinOp.add (xs35.getD 0 V.undef) (V.int .i64 1) H77 fun v79 =>
              pWk (List.length H30) [v79] H77 fun xs80 H81 => (I33 xs80 H81) ∧ m34 xs80 H81 < m34 xs35 H36)
              (pFa 6 1 v27 fun v82 =>
              pLoad false 1 v82 H50 fun v83 =>
              pFa 1 1 v42 fun v84 =>
              pLoad false 1 v84 H50 fun v85 =>
              pFa 6 1 v0 fun v86 =>
              pLoad false 1 v86 H50 fun v87 =>
              pFa 1 1 v42 fun v88 =>
              pLoad false 1 v88 H50 fun v89 =>
              pIndexAddr 5 v87 v89 H50 fun v90 =>
              pLoad true 5 v90 H50 fun v91 =>
              pIndexAddr 5 v83 v85 H50 fun v92 =>
              pSt 5 v92 v91 H50 fun H94 =>
              True ∧ pBin EK.other BinOp.add (xs35.getD 0 V.undef) (V.int .i64 1) H94 fun v96 =>
              pWk (List.length H30) [v96] H94 fun xs97 H98 => (I33 xs97 H98) ∧ m34 xs97 H98 < m34 xs35 H36)))
          (pLoad true 9 v27 H36 fun v99 =>
          pSt 9 v2 v99 H36 fun H101 =>
          pLoad true 9 v2 H101 fun v103 =>
          pWk (List.length H0) [(V.tup [v103, (V.bool true)])] H101 fun xs104 H105 => (Q (nthV xs104 0) H105))))
def h94 : Nat → Option (List Nat)
  | 5 => some [22]
  | _ => none
theorem c94 {x0 x1 : V} {H0 : Heap} {Q : V → Heap → Prop} (h : t94 x0 x1 H0 Q) : Ct Try.prog 94 [x0, x1] H0 Q :=
  Ct_of_text (fn := Try.f94) h94 (by kernel_rfl) (by kernel_rfl) (by kernel_rfl) (by kernel_rfl) h

def t147 (x0 x1 : V) (H0 : Heap) (Q : V → Heap → Prop) : Prop :=
  pBox 175 x0 H0 fun v0 H1 =>
  pFa 0 1 v0 fun v2 =>
  pLoad false 1 v2 H1 fun v3 =>
  pLn true v3 fun v4 =>
  pBin EK.other BinOp.sub x1 v4 H1 fun v5 =>
  pBin EK.other BinOp.lss v5 (V.int .i64 0) H1 fun v6 =>
  cIf v6
    (pWk (List.length H0) [(V.int .i64 (-1))] H1 fun xs7 H8 => (Q (nthV xs7 0) H8))
    (pWk (List.length H0) [v5] H1 fun xs9 H10 => (Q (nthV xs9 0) H10))
def h147 : Nat → Option (List Nat)
  | _ => none
theorem c147 {x0 x1 : V} {H0 : Heap} {Q : V → Heap → Prop} (h : t147 x0 x1 H0 Q) : Ct Try.prog 147 [x0, x1] H0 Q :=
  Ct_of_text (fn := Try.f147) h147 (by kernel_rfl) (by kernel_rfl) (by kernel_rfl) (by kernel_rfl) h

def t153 (x0 : V) (H0 : Heap) (Q : V → Heap → Prop) : Prop :=
  pBox 175 x0 H0 fun v0 H1 =>
  pBox 178 (V.agg [(V.str ({ data := #[] })), (V.int .i64 0), (V.int .i64 0)]) H1 fun v2 H3 =>
  pBox 178 (V.agg [(V.str ({ data := #[] })), (V.int .i64 0), (V.int .i64 0)]) H3 fun v4 H5 =>
  pFa 0 1 v0 fun v6 =>
  pLoad false 1 v6 H5 fun v7 =>
  pFa 0 1 v4 fun v8 =>
  pSt 1 v8 v7 H5 fun H10 =>
  pFa 1 1 v0 fun v12 =>
  pLoad false 1 v12 H10 fun v13 =>
  pFa 1 1 v4 fun v14 =>
  pSt 1 v14 v13 H10 fun H16 =>
  pFa 2 1 v0 fun v18 =>
  pLoad false 1 v18 H16 fun v19 =>
  pFa 2 1 v4 fun v20 =>
  pSt 1 v20 v19 H16 fun H22 =>
  pLoad true 3 v4 H22 fun v24 =>
  pSt 3 v2 v24 H22 fun H26 =>
  pLoad true 3 v2 H26 fun v28 =>
  pWk (List.length H0) [v28] H26 fun xs29 H30 => (Q (nthV xs29 0) H30)
def h153 : Nat → Option (List Nat)
  | _ => none
theorem c153 {x0 : V} {H0 : Heap} {Q : V → Heap → Prop} (h : t153 x0 H0 Q) : Ct Try.prog 153 [x0] H0 Q :=
  Ct_of_text (fn := Try.f153) h153 (by kernel_rfl) (by kernel_rfl) (by kernel_rfl) (by kernel_rfl) h

def t155 (x0 x1 : V) (H0 : Heap) (Q : V → Heap → Prop) : Prop :=
  pBox 178 x0 H0 fun v0 H1 =>
  pBox 178 x1 H1 fun v2 H3 =>
  pFa 0 1 v0 fun v4 =>
  pLoad false 1 v4 H3 fun v5 =>
  pFa 0 1 v2 fun v6 =>
  pLoad false 1 v6 H3 fun v7 =>
  pBin EK.other BinOp.neq v5 v7 H3 fun v8 =>
  cIf v8
    (pWk (List.length H0) [(V.bool false)] H3 fun xs9 H10 => (Q (nthV xs9 0) H10))
    (pFa 1 1 v0 fun v11 =>
    pLoad false 1 v11 H3 fun v12 =>
    pFa 1 1 v2 fun v13 =>
    pLoad false 1 v13 H3 fun v14 =>
    pBin EK.other BinOp.neq v12 v14 H3 fun v15 =>
    cIf v15
      (pWk (List.length H0) [(V.bool false)] H3 fun xs16 H17 => (Q (nthV xs16 0) H17))
      (pFa 2 1 v0 fun v18 =>
      pLoad false 1 v18 H3 fun v19 =>
      pFa 2 1 v2 fun v20 =>
      pLoad false 1 v20 H3 fun v21 =>
      pBin EK.other BinOp.neq v19 v21 H3 fun v22 =>
      cIf v22
        (pWk (List.length H0) [(V.bool false)] H3 fun xs23 H24 => (Q (nthV xs23 0) H24))
        (pWk (List.length H0) [(V.bool true)] H3 fun xs25 H26 => (Q (nthV xs25 0) H26))))
def h155 : Nat → Option (List Nat)
  | _ => none
theorem c155 {x0 x1 : V} {H0 : Heap} {Q : V → Heap → Prop} (h : t155 x0 x1 H0 Q) : Ct Try.prog 155 [x0, x1] H0 Q :=
  Ct_of_text (fn := Try.f155) h155 (by kernel_rfl) (by kernel_rfl) (by kernel_rfl) (by kernel_rfl) h

def t171 (x0 x1 : V) (H0 : Heap) (Q : V → Heap → Prop) : Prop :=
  pBox 81 x0 H0 fun v0 H1 =>
  pFa 3 1 v0 fun v2 =>
  pLoad false 1 v2 H1 fun v3 =>
  pCall Try.prog 173 [v3, x1] H1 fun v4 H5 =>
  pBin EK.other BinOp.lss v4 (V.int .i64 0) H5 fun v6 =>
  cIf v6
    (pWk (List.length H0) [(V.int .i64 (-1))] H5 fun xs7 H8 => (Q (nthV xs7 0) H8))
    (pWk (List.length H0) [v4] H5 fun xs9 H10 => (Q (nthV xs9 0) H10))
def h171 : Nat → Option (List Nat)
  | _ => none
theorem c171 {x0 x1 : V} {H0 : Heap} {Q : V → Heap → Prop} (h : t171 x0 x1 H0 Q) : Ct Try.prog 171 [x0, x1] H0 Q :=
  Ct_of_text (fn := Try.f171) h171 (by kernel_rfl) (by kernel_rfl) (by kernel_rfl) (by kernel_rfl) h

def t172 (x0 x1 : V) (H0 : Heap) (Q : V → Heap → Prop) : Prop :=
  pLn false x0 fun v0 =>
  pBin EK.other BinOp.sub x1 v0 H0 fun v1 =>
  pBin EK.other BinOp.lss v1 (V.int .i64 0) H0 fun v2 =>
  cIf v2
    (pWk (List.length H0) [(V.int .i64 (-1))] H0 fun xs3 H4 => (Q (nthV xs3 0) H4))
    (pWk (List.length H0) [v1] H0 fun xs5 H6 => (Q (nthV xs5 0) H6))
def h172 : Nat → Option (List Nat)
  | _ => none
theorem c172 {x0 x1 : V} {H0 : Heap} {Q : V → Heap → Prop} (h : t172 x0 x1 H0 Q) : Ct Try.prog 172 [x0, x1] H0 Q :=
  Ct_of_text (fn := Try.f172) h172 (by kernel_rfl) (by kernel_rfl) (by kernel_rfl) (by kernel_rfl) h

def t173 (x0 x1 : V) (H0 : Heap) (Q : V → Heap → Prop) : Prop :=
  pLn false x0 fun v0 =>
  pBin EK.other BinOp.sub x1 v0 H0 fun v1 =>
  pBin EK.other BinOp.lss v1 (V.int .i64 0) H0 fun v2 =>
  cIf v2
    (pWk (List.length H0) [(V.int .i64 (-1))] H0 fun xs3 H4 => (Q (nthV xs3 0) H4))
    (pWk (List.length H0) [v1] H0 fun xs5 H6 => (Q (nthV xs5 0) H6))
def h173 : Nat → Option (List Nat)
  | _ => none
theorem c173 {x0 x1 : V} {H0 : Heap} {Q : V → Heap → Prop} (h : t173 x0 x1 H0 Q) : Ct Try.prog 173 [x0, x1] H0 Q :=
  Ct_of_text (fn := Try.f173) h173 (by kernel_rfl) (by kernel_rfl) (by kernel_rfl) (by kernel_rfl) h

def t174 (x0 x1 : V) (H0 : Heap) (Q : V → Heap → Prop) : Prop :=
  pBox 29 x0 H0 fun v0 H1 =>
  pBox 29 x1 H1 fun v2 H3 =>
  pBs 3 1 (V.int .i64 0) 0 [] [] H3 fun v4 H5 =>
  ∃ (I6 : List V → Heap → Prop) (m7 : List V → Heap → Nat), (pWk (List.length H5) [v4, (V.int .i64 0)] H5 fun xs10 H11 => (I6 xs10 H11)) ∧
    ∀ xs8 H9, I6 xs8 H9 →
    pFa 6 1 v0 fun v12 =>
    pLoad false 1 v12 H9 fun v13 =>
    pLn false v13 fun v14 =>
    pFa 6 1 v2 fun v15 =>
    pLoad false 1 v15 H9 fun v16 =>
    pLn false v16 fun v17 =>
    pMin v14 v17 fun v18 =>
    pBin EK.other BinOp.lss (xs8.getD 1 V.undef) v18 H9 fun v19 =>
    cIf v19
      (pFa 6 1 v0 fun v20 =>
      pLoad false 1 v20 H9 fun v21 =>
      pIndexAddr 5 v21 (xs8.getD 1 V.undef) H9 fun v22 =>
      pLoad true 5 v22 H9 fun v23 =>
      pFa 6 1 v2 fun v24 =>
      pLoad false 1 v24 H9 fun v25 =>
      pIndexAddr 5 v25 (xs8.getD 1 V.undef) H9 fun v26 =>
      pLoad true 5 v26 H9 fun v27 =>
      pBin (EK.agg [LK.i, LK.i, LK.i, LK.i, LK.i]) BinOp.neq v23 v27 H9 fun v28 =>
      cIf v28
        (pBs 3 1 (V.int .i64 0) 1 [0] [(xs8.getD 1 V.undef)] H9 fun v29 H30 =>
        pAp 24 3 1 8 (V.int .i64 0) (xs8.getD 0 V.undef) v29 H30 fun v31 H32 =>
        pBin EK.other BinOp.add (xs8.getD 1 V.undef) (V.int .i64 1) H32 fun v33 =>
        pWk (List.length H5) [v31, v33] H32 fun xs34 H35 => (I6 xs34 H35) ∧ m7 xs34 H35 < m7 xs8 H9)
        (pBin EK.other BinOp.add (xs8.getD 1 V.undef) (V.int .i64 1) H9 fun v36 =>
        pWk (List.length H5) [(xs8.getD 0 V.undef), v36] H9 fun xs37 H38 => (I6 xs37 H38) ∧ m7 xs37 H38 < m7 xs8 H9))
      (pWk (List.length H0) [(xs8.getD 0 V.undef)] H9 fun xs39 H40 => (Q (nthV xs39 0) H40))
def h174 : Nat → Option (List Nat)
  | 3 => some [5, 6]
  | _ => none
theorem c174 {x0 x1 : V} {H0 : Heap} {Q : V → Heap → Prop} (h : t174 x0 x1 H0 Q) : Ct Try.prog 174 [x0, x1] H0 Q :=
  Ct_of_text (fn := Try.f174) h174 (by kernel_rfl) (by kernel_rfl) (by kernel_rfl) (by kernel_rfl) h

def t175 (x0 : V) (H0 : Heap) (Q : V → Heap → Prop) : Prop :=
  pBox 81 x0 H0 fun v0 H1 =>
  pBox 26 (V.agg [(V.int .i64 0), (V.int .i64 0), (V.int .i64 0), (V.sl false 1 []), (V.bool false)]) H1 fun v2 H3 =>
  pBox 26 (V.agg [(V.int .i64 0), (V.int .i64 0), (V.int .i64 0), (V.sl false 1 []), (V.bool false)]) H3 fun v4 H5 =>
  pFa 0 1 v0 fun v6 =>
  pLoad false 1 v6 H5 fun v7 =>
  pFa 0 1 v4 fun v8 =>
  pSt 1 v8 v7 H5 fun H10 =>
  pFa 1 1 v0 fun v12 =>
  pLoad false 1 v12 H10 fun v13 =>
  pFa 1 1 v4 fun v14 =>
  pSt 1 v14 v13 H10 fun H16 =>
  pFa 2 1 v0 fun v18 =>
  pLoad false 1 v18 H16 fun v19 =>
  pFa 2 1 v4 fun v20 =>
  pSt 1 v20 v19 H16 fun H22 =>
  pFa 3 1 v0 fun v24 =>
  pLoad false 1 v24 H22 fun v25 =>
  pCall Try.prog 47 [v25] H22 fun v26 H27 =>
  pFa 3 1 v4 fun v28 =>
  pSt 1 v28 v26 H27 fun H30 =>
  pFa 4 1 v0 fun v32 =>
  pLoad false 1 v32 H30 fun v33 =>
  pFa 4 1 v4 fun v34 =>
  pSt 1 v34 v33 H30 fun H36 =>
  pLoad true 5 v4 H36 fun v38 =>
  pSt 5 v2 v38 H36 fun H40 =>
  pLoad true 5 v2 H40 fun v42 =>
  pWk (List.length H0) [v42] H40 fun xs43 H44 => (Q (nthV xs43 0) H44)
def h175 : Nat → Option (List Nat)
  | _ => none
theorem c175 {x0 : V} {H0 : Heap} {Q : V → Heap → Prop} (h : t175 x0 H0 Q) : Ct Try.prog 175 [x0] H0 Q :=
  Ct_of_text (fn := Try.f175) h175 (by kernel_rfl) (by kernel_rfl) (by kernel_rfl) (by kernel_rfl) h

def t176 (x0 : V) (H0 : Heap) (Q : V → Heap → Prop) : Prop :=
  pLn false x0 fun v0 =>
  pMk 40 5 40 (V.agg [(V.int .i64 0), (V.int .i64 0), (V.int .i64 0), (V.int .i64 0), (V.int .i64 0)]) v0 v0 H0 fun v1 H2 =>
  ∃ (I3 : List V → Heap → Prop) (m4 : List V → Heap → Nat), (pWk (List.length H2) [(V.int .i64 0)] H2 fun xs7 H8 => (I3 xs7 H8)) ∧
    ∀ xs5 H6, I3 xs5 H6 →
    pLn false x0 fun v9 =>
    pBin EK.other BinOp.lss (xs5.getD 0 V.undef) v9 H6 fun v10 =>
    cIf v10
      (pIndexAddr 5 x0 (xs5.getD 0 V.undef) H6 fun v11 =>
      pLoad true 5 v11 H6 fun v12 =>
      pCall Try.prog 258 [v12] H6 fun v13 H14 =>
      pIndexAddr 5 v1 (xs5.getD 0 V.undef) H14 fun v15 =>
      pSt 5 v15 v13 H14 fun H17 =>
      pBin EK.other BinOp.add (xs5.getD 0 V.undef) (V.int .i64 1) H17 fun v19 =>
      pWk (List.length H2) [v19] H17 fun xs20 H21 => (I3 xs20 H21) ∧ m4 xs20 H21 < m4 xs5 H6)
      (pWk (List.length H0) [v1] H6 fun xs22 H23 => (Q (nthV xs22 0) H23))
def h176 : Nat → Option (List Nat)
  | 3 => some [4]
  | _ => none
theorem c176 {x0 : V} {H0 : Heap} {Q : V → Heap → Prop} (h : t176 x0 H0 Q) : Ct Try.prog 176 [x0] H0 Q :=
  Ct_of_text (fn := Try.f176) h176 (by kernel_rfl) (by kernel_rfl) (by kernel_rfl) (by kernel_rfl) h

def t177 (x0 x1 : V) (H0 : Heap) (Q : V → Heap → Prop) : Prop :=
  pBox 26 x0 H0 fun v0 H1 =>
  pBox 26 x1 H1 fun v2 H3 =>
  pFa 0 1 v0 fun v4 =>
  pLoad false 1 v4 H3 fun v5 =>
  pFa 0 1 v2 fun v6 =>
  pLoad false 1 v6 H3 fun v7 =>
  pBin EK.other BinOp.neq v5 v7 H3 fun v8 =>
  cIf v8
    (pWk (List.length H0) [(V.bool false)] H3 fun xs9 H10 => (Q (nthV xs9 0) H10))
    (pFa 1 1 v0 fun v11 =>
    pLoad false 1 v11 H3 fun v12 =>
    pFa 1 1 v2 fun v13 =>
    pLoad false 1 v13 H3 fun v14 =>
    pBin EK.other BinOp.neq v12 v14 H3 fun v15 =>
    cIf v15
      (pWk (List.length H0) [(V.bool false)] H3 fun xs16 H17 => (Q (nthV xs16 0) H17))
      (pFa 2 1 v0 fun v18 =>
      pLoad false 1 v18 H3 fun v19 =>
      pFa 2 1 v2 fun v20 =>
      pLoad false 1 v20 H3 fun v21 =>
      pBin EK.other BinOp.neq v19 v21 H3 fun v22 =>
      cIf v22
        (pWk (List.length H0) [(V.bool false)] H3 fun xs23 H24 => (Q (nthV xs23 0) H24))
        (pFa 3 1 v0 fun v25 =>
        pLoad false 1 v25 H3 fun v26 =>
        pFa 3 1 v2 fun v27 =>
        pLoad false 1 v27 H3 fun v28 =>
        pCall Try.prog 50 [v26, v28] H3 fun v29 H30 =>
        pNot v29 fun v31 =>
        cIf v31
          (pWk (List.length H0) [(V.bool false)] H30 fun xs32 H33 => (Q (nthV xs32 0) H33))
          (pFa 4 1 v0 fun v34 =>
          pLoad false 1 v34 H30 fun v35 =>
          pFa 4 1 v2 fun v36 =>
          pLoad false 1 v36 H30 fun v37 =>
          pBin EK.bool BinOp.neq v35 v37 H30 fun v38 =>
          cIf v38
            (pWk (List.length H0) [(V.bool false)] H30 fun xs39 H40 => (Q (nthV xs39 0) H40))
            (pWk (List.length H0) [(V.bool true)] H30 fun xs41 H42 => (Q (nthV xs41 0) H42))))))
def h177 : Nat → Option (List Nat)
  | _ => none
theorem c177 {x0 x1 : V} {H0 : Heap} {Q : V → Heap → Prop} (h : t177 x0 x1 H0 Q) : Ct Try.prog 177 [x0, x1] H0 Q :=
  Ct_of_text (fn := Try.f177) h177 (by kernel_rfl) (by kernel_rfl) (by kernel_rfl) (by kernel_rfl) h

def t178 (x0 x1 : V) (H0 : Heap) (Q : V → Heap → Prop) : Prop :=
  pLn false x0 fun v0 =>
  pLn false x1 fun v1 =>
  pBin EK.other BinOp.neq v0 v1 H0 fun v2 =>
  cIf v2
    (pWk (List.length H0) [(V.bool false)] H0 fun xs3 H4 => (Q (nthV xs3 0) H4))
    (∃ (I5 : List V → Heap → Prop) (m6 : List V → Heap → Nat), (pWk (List.length H0) [(V.int .i64 0)] H0 fun xs9 H10 => (I5 xs9 H10)) ∧
      ∀ xs7 H8, I5 xs7 H8 →
      pLn false x0 fun v11 =>
      pBin EK.other BinOp.lss (xs7.getD 0 V.undef) v11 H8 fun v12 =>
      cIf v12
        (pIndexAddr 5 x0 (xs7.getD 0 V.undef) H8 fun v13 =>
        pLoad true 5 v13 H8 fun v14 =>
        pIndexAddr 5 x1 (xs7.getD 0 V.undef) H8 fun v15 =>
        pLoad true 5 v15 H8 fun v16 =>
        pCall Try.prog 259 [v14, v16] H8 fun v17 H18 =>
        True ∧ pNot v17 fun v19 =>
        cIf v19
          (pWk (List.length H0) [(V.bool false)] H18 fun xs20 H21 => (Q (nthV xs20 0) H21))
          (pBin EK.other BinOp.add (xs7.getD 0 V.undef) (V.int .i64 1) H18 fun v22 =>
          pWk (List.length H0) [v22] H18 fun xs23 H24 => (I5 xs23 H24) ∧ m6 xs23 H24 < m6 xs7 H8))
        (pWk (List.length H0) [(V.bool true)] H8 fun xs25 H26 => (Q (nthV xs25 0) H26)))
def h178 : Nat → Option (List Nat)
  | 4 => some [5]
  | _ => none
theorem c178 {x0 x1 : V} {H0 : Heap} {Q : V → Heap → Prop} (h : t178 x0 x1 H0 Q) : Ct Try.prog 178 [x0, x1] H0 Q :=
  Ct_of_text (fn := Try.f178) h178 (by kernel_rfl) (by kernel_rfl) (by kernel_rfl) (by kernel_rfl) h

def t201 (x0 : V) (H0 : Heap) (Q : V → Heap → Prop) : Prop :=
  pBox 29 x0 H0 fun v0 H1 =>
  pFa 0 1 v0 fun v2 =>
  pLoad false 1 v2 H1 fun v3 =>
  pLn false v3 fun v4 =>
  pFa 0 1 v0 fun v5 =>
  pLoad false 1 v5 H1 fun v6 =>
  pCall Try.prog 263 [v6] H1 fun v7 H8 =>
  pNot v7 fun v9 =>
  cIf v9
    (pWk (List.length H0) [(V.bool false)] H8 fun xs10 H11 => (Q (nthV xs10 0) H11))
    (pFa 1 5 v0 fun v12 =>
    pLoad true 5 v12 H8 fun v13 =>
    pCall Try.prog 264 [v13] H8 fun v14 H15 =>
    pNot v14 fun v16 =>
    cIf v16
      (pWk (List.length H0) [(V.bool false)] H15 fun xs17 H18 => (Q (nthV xs17 0) H18))
      (pFa 6 1 v0 fun v19 =>
      pLoad false 1 v19 H15 fun v20 =>
      pCall Try.prog 265 [v4, v20] H15 fun v21 H22 =>
      pNot v21 fun v23 =>
      cIf v23
        (pWk (List.length H0) [(V.bool false)] H22 fun xs24 H25 => (Q (nthV xs24 0) H25))
        (pFa 7 1 v0 fun v26 =>
        pLoad false 1 v26 H22 fun v27 =>
        pLn false v27 fun v28 =>
        pBin EK.other BinOp.neq v28 v4 H22 fun v29 =>
        cIf v29
          (pWk (List.length H0) [(V.bool false)] H22 fun xs30 H31 => (Q (nthV xs30 0) H31))
          (pFa 8 1 v0 fun v32 =>
          pLoad false 1 v32 H22 fun v33 =>
          pLn false v33 fun v34 =>
          pBin EK.other BinOp.neq v34 v4 H22 fun v35 =>
          cIf v35
            (pWk (List.length H0) [(V.bool false)] H22 fun xs36 H37 => (Q (nthV xs36 0) H37))
            (pFa 0 1 v0 fun v38 =>
            pLoad false 1 v38 H22 fun v39 =>
            pLn false v39 fun v40 =>
            ∃ (I41 : List V → Heap → Prop) (m42 : List V → Heap → Nat), (pWk (List.length H22) [(V.int .i64 0)] H22 fun xs45 H46 => (I41 xs45 H46)) ∧
              ∀ xs43 H44, I41 xs43 H44 →
              pBin EK.other BinOp.lss (xs43.getD 0 V.undef) v40 H44 fun v47 =>
              cIf v47
                (pFa 7 1 v0 fun v48 =>
                pLoad false 1 v48 H44 fun v49 =>
                pIndexAddr 1 v49 (xs43.getD 0 V.undef) H44 fun v50 =>
                pLoad false 1 v50 H44 fun v51 =>
                pCall Try.prog 202 [v51, (V.int .i64 0), (V.int .i64 1000)] H44 fun v52 H53 =>
                pNot v52 fun v54 =>
                cIf v54
                  (pWk (List.length H0) [(V.bool false)] H53 fun xs55 H56 => (Q (nthV xs55 0) H56))
                  (pFa 8 1 v0 fun v57 =>
                  pLoad false 1 v57 H53 fun v58 =>
                  pIndexAddr 1 v58 (xs43.getD 0 V.undef) H53 fun v59 =>
                  pLoad false 1 v59 H53 fun v60 =>
                  pCall Try.prog 202 [v60, (V.int .i64 0), (V.int .i64 1000)] H53 fun v61 H62 =>
                  pNot v61 fun v63 =>
                  cIf v63
                    (pWk (List.length H0) [(V.bool false)] H62 fun xs64 H65 => (Q (nthV xs64 0) H65))
                    (pBin EK.other BinOp.add (xs43.getD 0 V.undef) (V.int .i64 1) H62 fun v66 =>
                    pWk (List.length H22) [v66] H62 fun xs67 H68 => (I41 xs67 H68) ∧ m42 xs67 H68 < m42 xs43 H44)))
                (pWk (List.length H0) [(V.bool true)] H44 fun xs69 H70 => (Q (nthV xs69 0) H70)))))))
def h201 : Nat → Option (List Nat)
  | 5 => some [42]
  | _ => none
theorem c201 {x0 : V} {H0 : Heap} {Q : V → Heap → Prop} (h : t201 x0 H0 Q) : Ct Try.prog 201 [x0] H0 Q :=
  Ct_of_text (fn := Try.f201) h201 (by kernel_rfl) (by kernel_rfl) (by kernel_rfl) (by kernel_rfl) h

def t202 (x0 x1 x2 : V) (H0 : Heap) (Q : V → Heap → Prop) : Prop :=
  pBin EK.other BinOp.geq x0 x1 H0 fun v0 =>
  cIf v0
    (pBin EK.other BinOp.leq x0 x2 H0 fun v1 =>
    pWk (List.length H0) [v1] H0 fun xs2 H3 => (Q (nthV xs2 0) H3))
    (pWk (List.length H0) [(V.bool false)] H0 fun xs4 H5 => (Q (nthV xs4 0) H5))
def h202 : Nat → Option (List Nat)
  | _ => none
theorem c202 {x0 x1 x2 : V} {H0 : Heap} {Q : V → Heap → Prop} (h : t202 x0 x1 x2 H0 Q) : Ct Try.prog 202 [x0, x1, x2] H0 Q :=
  Ct_of_text (fn := Try.f202) h202 (by kernel_rfl) (by kernel_rfl) (by kernel_rfl) (by kernel_rfl) h

def t203 (x0 : V) (H0 : Heap) (Q : V → Heap → Prop) : Prop :=
  pBox 29 x0 H0 fun v0 H1 =>
  pBox 29 (V.agg [(V.sl false 3 []), (V.int .i64 0), (V.int .i64 0), (V.int .i64 0), (V.sl false 1 []), (V.bool false), (V.sl false 5 []), (V.sl false 1 []), (V.sl false 1 [])]) H1 fun v2 H3 =>
  pBs 178 3 (V.agg [(V.str ({ data := #[] })), (V.int .i64 0), (V.int .i64 0)]) 0 [] [] H3 fun v4 H5 =>
  pFa 0 1 v0 fun v6 =>
  pLoad false 1 v6 H5 fun v7 =>
  pAp 23 178 3 32 (V.agg [(V.str ({ data := #[] })), (V.int .i64 0), (V.int .i64 0)]) v4 v7 H5 fun v8 H9 =>
  pFa 0 1 v0 fun v10 =>
  pSt 1 v10 v8 H9 fun H12 =>
  pBs 3 1 (V.int .i64 0) 0 [] [] H12 fun v14 H15 =>
  pFa 1 5 v0 fun v16 =>
  pFa 3 1 v16 fun v17 =>
  pLoad false 1 v17 H15 fun v18 =>
  pAp 24 3 1 8 (V.int .i64 0) v14 v18 H15 fun v19 H20 =>
  pFa 1 5 v0 fun v21 =>
  pFa 3 1 v21 fun v22 =>
  pSt 1 v22 v19 H20 fun H24 =>
  pBs 40 5 (V.agg [(V.int .i64 0), (V.int .i64 0), (V.int .i64 0), (V.int .i64 0), (V.int .i64 0)]) 0 [] [] H24 fun v26 H27 =>
  pFa 6 1 v0 fun v28 =>
  pLoad false 1 v28 H27 fun v29 =>
  pAp 27 40 5 40 (V.agg [(V.int .i64 0), (V.int .i64 0), (V.int .i64 0), (V.int .i64 0), (V.int .i64 0)]) v26 v29 H27 fun v30 H31 =>
  pFa 6 1 v0 fun v32 =>
  pSt 1 v32 v30 H31 fun H34 =>
  pBs 3 1 (V.int .i64 0) 0 [] [] H34 fun v36 H37 =>
  pFa 7 1 v0 fun v38 =>
  pLoad false 1 v38 H37 fun v39 =>
  pAp 24 3 1 8 (V.int .i64 0) v36 v39 H37 fun v40 H41 =>
  pFa 7 1 v0 fun v42 =>
  pSt 1 v42 v40 H41 fun H44 =>
  pBs 3 1 (V.int .i64 0) 0 [] [] H44 fun v46 H47 =>
  pFa 8 1 v0 fun v48 =>
  pLoad false 1 v48 H47 fun v49 =>
  pAp 24 3 1 8 (V.int .i64 0) v46 v49 H47 fun v50 H51 =>
  pFa 8 1 v0 fun v52 =>
  pSt 1 v52 v50 H51 fun H54 =>
  pLoad true 9 v0 H54 fun v56 =>
  pSt 9 v2 v56 H54 fun H58 =>
  pLoad true 9 v2 H58 fun v60 =>
  pWk (List.length H0) [v60] H58 fun xs61 H62 => (Q (nthV xs61 0) H62)
def h203 : Nat → Option (List Nat)
  | _ => none
theorem c203 {x0 : V} {H0 : Heap} {Q : V → Heap → Prop} (h : t203 x0 H0 Q) : Ct Try.prog 203 [x0] H0 Q :=
  Ct_of_text (fn := Try.f203) h203 (by kernel_rfl) (by kernel_rfl) (by kernel_rfl) (by kernel_rfl) h

def t204 (x0 x1 : V) (H0 : Heap) (Q : V → Heap → Prop) : Prop :=
  pBox 40 x0 H0 fun v0 H1 =>
  pBox 40 (V.agg [(V.int .i64 0), (V.int .i64 0), (V.int .i64 0), (V.int .i64 0), (V.int .i64 0)]) H1 fun v2 H3 =>
  pFa 0 1 v0 fun v4 =>
  pLoad false 1 v4 H3 fun v5 =>
  pFa 1 1 v0 fun v6 =>
  pLoad false 1 v6 H3 fun v7 =>
  pBuild [(V.int .i64 0), (V.int .i64 0), (V.int .i64 0), (V.int .i64 0), (V.int .i64 0)] [(.mk 0 (.mk 1 v5)), (.mk 1 (.mk 1 v7)), (.mk 4 (.mk 1 (V.int .i64 3)))] fun v8 =>
  pBox 40 (V.agg [(V.int .i64 0), (V.int .i64 0), (V.int .i64 0), (V.int .i64 0), (V.int .i64 0)]) H3 fun v9 H10 =>
  pSt 5 v9 v8 H10 fun H12 =>
  pFa 0 1 v0 fun v14 =>
  pLoad false 1 v14 H12 fun v15 =>
  pBin EK.other BinOp.eql v15 x1 H12 fun v16 =>
  cIf v16
    (pFa 4 1 v9 fun v17 =>
    pSt 1 v17 (V.int .i64 2) H12 fun H19 =>
    pLoad true 5 v9 H19 fun v21 =>
    pSt 5 v2 v21 H19 fun H23 =>
    pLoad true 5 v2 H23 fun v25 =>
    pWk (List.length H0) [v25] H23 fun xs26 H27 => (Q (nthV xs26 0) H27))
    (pLoad true 5 v9 H12 fun v28 =>
    pSt 5 v2 v28 H12 fun H30 =>
    pLoad true 5 v2 H30 fun v32 =>
    pWk (List.length H0) [v32] H30 fun xs33 H34 => (Q (nthV xs33 0) H34))
def h204 : Nat → Option (List Nat)
  | _ => none
theorem c204 {x0 x1 : V} {H0 : Heap} {Q : V → Heap → Prop} (h : t204 x0 x1 H0 Q) : Ct Try.prog 204 [x0, x1] H0 Q :=
  Ct_of_text (fn := Try.f204) h204 (by kernel_rfl) (by kernel_rfl) (by kernel_rfl) (by kernel_rfl) h

def t211 (x0 x1 : V) (H0 : Heap) (Q : V → Heap → Prop) : Prop :=
  pBox 29 x0 H0 fun v0 H1 =>
  pBox 90 x1 H1 fun v2 H3 =>
  pLoad true 9 v0 H3 fun v4 =>
  pCall Try.prog 201 [v4] H3 fun v5 H6 =>
  pNot v5 fun v7 =>
  cIf v7
    (pWk (List.length H0) [(V.bool false)] H6 fun xs8 H9 => (Q (nthV xs8 0) H9))
    (pFa 1 1 v2 fun v10 =>
    pLoad false 1 v10 H6 fun v11 =>
    pFa 6 1 v0 fun v12 =>
    pLoad false 1 v12 H6 fun v13 =>
    pLn false v13 fun v14 =>
    pBin EK.other BinOp.sub v14 (V.int .i64 1) H6 fun v15 =>
    pCall Try.prog 202 [v11, (V.int .i64 0), v15] H6 fun v16 H17 =>
    pNot v16 fun v18 =>
    cIf v18
      (pWk (List.length H0) [(V.bool false)] H17 fun xs19 H20 => (Q (nthV xs19 0) H20))
      (pFa 6 1 v0 fun v21 =>
      pLoad false 1 v21 H17 fun v22 =>
      pFa 1 1 v2 fun v23 =>
      pLoad false 1 v23 H17 fun v24 =>
      pIndexAddr 5 v22 v24 H17 fun v25 =>
      pLoad true 5 v25 H17 fun v26 =>
      pBox 40 (V.agg [(V.int .i64 0), (V.int .i64 0), (V.int .i64 0), (V.int .i64 0), (V.int .i64 0)]) H17 fun v27 H28 =>
      pSt 5 v27 v26 H28 fun H30 =>
      pFa 4 1 v27 fun v32 =>
      pLoad false 1 v32 H30 fun v33 =>
      pBin EK.other BinOp.eql v33 (V.int .i64 1) H30 fun v34 =>
      cIf v34
        (pFa 0 1 v27 fun v35 =>
        pLoad false 1 v35 H30 fun v36 =>
        pFa 0 1 v2 fun v37 =>
        pLoad false 1 v37 H30 fun v38 =>
        pBin EK.other BinOp.eql v36 v38 H30 fun v39 =>
        cIf v39
          (pWk (List.length H0) [(V.bool true)] H30 fun xs40 H41 => (Q (nthV xs40 0) H41))
          (pFa 1 1 v27 fun v42 =>
          pLoad false 1 v42 H30 fun v43 =>
          pFa 0 1 v2 fun v44 =>
          pLoad false 1 v44 H30 fun v45 =>
          pBin EK.other BinOp.eql v43 v45 H30 fun v46 =>
          pWk (List.length H0) [v46] H30 fun xs47 H48 => (Q (nthV xs47 0) H48)))
        (pFa 4 1 v27 fun v49 =>
        pLoad false 1 v49 H30 fun v50 =>
        pBin EK.other BinOp.eql v50 (V.int .i64 2) H30 fun v51 =>
        cIf v51
          (pFa 0 1 v27 fun v52 =>
          pLoad false 1 v52 H30 fun v53 =>
          pFa 0 1 v2 fun v54 =>
          pLoad false 1 v54 H30 fun v55 =>
          pBin EK.other BinOp.eql v53 v55 H30 fun v56 =>
          cIf v56
            (pWk (List.length H0) [(V.bool true)] H30 fun xs57 H58 => (Q (nthV xs57 0) H58))
            (pFa 1 1 v27 fun v59 =>
            pLoad false 1 v59 H30 fun v60 =>
            pFa 0 1 v2 fun v61 =>
            pLoad false 1 v61 H30 fun v62 =>
            pBin EK.other BinOp.eql v60 v62 H30 fun v63 =>
            pWk (List.length H0) [v63] H30 fun xs64 H65 => (Q (nthV xs64 0) H65)))
          (pFa 4 1 v27 fun v66 =>
          pLoad false 1 v66 H30 fun v67 =>
          pBin EK.other BinOp.eql v67 (V.int .i64 3) H30 fun v68 =>
          cIf v68
            (pFa 0 1 v27 fun v69 =>
            pLoad false 1 v69 H30 fun v70 =>
            pFa 0 1 v2 fun v71 =>
            pLoad false 1 v71 H30 fun v72 =>
            pBin EK.other BinOp.eql v70 v72 H30 fun v73 =>
            cIf v73
              (pWk (List.length H0) [(V.bool true)] H30 fun xs74 H75 => (Q (nthV xs74 0) H75))
              (pFa 1 1 v27 fun v76 =>
              pLoad false 1 v76 H30 fun v77 =>
              pFa 0 1 v2 fun v78 =>
              pLoad false 1 v78 H30 fun v79 =>
              pBin EK.other BinOp.eql v77 v79 H30 fun v80 =>
              pWk (List.length H0) [v80] H30 fun xs81 H82 => (Q (nthV xs81 0) H82)))
            (pWk (List.length H0) [(V.bool false)] H30 fun xs83 H84 => (Q (nthV xs83 0) H84))))))
def h211 : Nat → Option (List Nat)
  | _ => none
theorem c211 {x0 x1 : V} {H0 : Heap} {Q : V → Heap → Prop} (h : t211 x0 x1 H0 Q) : Ct Try.prog 211 [x0, x1] H0 Q :=
  Ct_of_text (fn := Try.f211) h211 (by kernel_rfl) (by kernel_rfl) (by kernel_rfl) (by kernel_rfl) h

def t258 (x0 : V) (H0 : Heap) (Q : V → Heap → Prop) : Prop :=
  pBox 264 x0 H0 fun v0 H1 =>
  pBox 40 (V.agg [(V.int .i64 0), (V.int .i64 0), (V.int .i64 0), (V.int .i64 0), (V.int .i64 0)]) H1 fun v2 H3 =>
  pBox 40 (V.agg [(V.int .i64 0), (V.int .i64 0), (V.int .i64 0), (V.int .i64 0), (V.int .i64 0)]) H3 fun v4 H5 =>
  pFa 0 1 v0 fun v6 =>
  pLoad false 1 v6 H5 fun v7 =>
  pFa 0 1 v4 fun v8 =>
  pSt 1 v8 v7 H5 fun H10 =>
  pFa 1 1 v0 fun v12 =>
  pLoad false 1 v12 H10 fun v13 =>
  pFa 1 1 v4 fun v14 =>
  pSt 1 v14 v13 H10 fun H16 =>
  pFa 2 1 v0 fun v18 =>
  pLoad false 1 v18 H16 fun v19 =>
  pFa 2 1 v4 fun v20 =>
  pSt 1 v20 v19 H16 fun H22 =>
  pFa 3 1 v0 fun v24 =>
  pLoad false 1 v24 H22 fun v25 =>
  pFa 3 1 v4 fun v26 =>
  pSt 1 v26 v25 H22 fun H28 =>
  pFa 4 1 v0 fun v30 =>
  pLoad false 1 v30 H28 fun v31 =>
  pFa 4 1 v4 fun v32 =>
  pSt 1 v32 v31 H28 fun H34 =>
  pLoad true 5 v4 H34 fun v36 =>
  pSt 5 v2 v36 H34 fun H38 =>
  pLoad true 5 v2 H38 fun v40 =>
  pWk (List.length H0) [v40] H38 fun xs41 H42 => (Q (nthV xs41 0) H42)
def h258 : Nat → Option (List Nat)
  | _ => none
theorem c258 {x0 : V} {H0 : Heap} {Q : V → Heap → Prop} (h : t258 x0 H0 Q) : Ct Try.prog 258 [x0] H0 Q :=
  Ct_of_text (fn := Try.f258) h258 (by kernel_rfl) (by kernel_rfl) (by kernel_rfl) (by kernel_rfl) h

def t259 (x0 x1 : V) (H0 : Heap) (Q : V → Heap → Prop) : Prop :=
  pBox 40 x0 H0 fun v0 H1 =>
  pBox 40 x1 H1 fun v2 H3 =>
  pFa 0 1 v0 fun v4 =>
  pLoad false 1 v4 H3 fun v5 =>
  pFa 0 1 v2 fun v6 =>
  pLoad false 1 v6 H3 fun v7 =>
  pBin EK.other BinOp.neq v5 v7 H3 fun v8 =>
  cIf v8
    (pWk (List.length H0) [(V.bool false)] H3 fun xs9 H10 => (Q (nthV xs9 0) H10))
    (pFa 1 1 v0 fun v11 =>
    pLoad false 1 v11 H3 fun v12 =>
    pFa 1 1 v2 fun v13 =>
    pLoad false 1 v13 H3 fun v14 =>
    pBin EK.other BinOp.neq v12 v14 H3 fun v15 =>
    cIf v15
      (pWk (List.length H0) [(V.bool false)] H3 fun xs16 H17 => (Q (nthV xs16 0) H17))
      (pFa 2 1 v0 fun v18 =>
      pLoad false 1 v18 H3 fun v19 =>
      pFa 2 1 v2 fun v20 =>
      pLoad false 1 v20 H3 fun v21 =>
      pBin EK.other BinOp.neq v19 v21 H3 fun v22 =>
      cIf v22
        (pWk (List.length H0) [(V.bool false)] H3 fun xs23 H24 => (Q (nthV xs23 0) H24))
        (pFa 3 1 v0 fun v25 =>
        pLoad false 1 v25 H3 fun v26 =>
        pFa 3 1 v2 fun v27 =>
        pLoad false 1 v27 H3 fun v28 =>
        pBin EK.other BinOp.neq v26 v28 H3 fun v29 =>
        cIf v29
          (pWk (List.length H0) [(V.bool false)] H3 fun xs30 H31 => (Q (nthV xs30 0) H31))
          (pFa 4 1 v0 fun v32 =>
          pLoad false 1 v32 H3 fun v33 =>
          pFa 4 1 v2 fun v34 =>
          pLoad false 1 v34 H3 fun v35 =>
          pBin EK.other BinOp.neq v33 v35 H3 fun v36 =>
          cIf v36
            (pWk (List.length H0) [(V.bool false)] H3 fun xs37 H38 => (Q (nthV xs37 0) H38))
            (pWk (List.length H0) [(V.bool true)] H3 fun xs39 H40 => (Q (nthV xs39 0) H40))))))
def h259 : Nat → Option (List Nat)
  | _ => none
theorem c259 {x0 x1 : V} {H0 : Heap} {Q : V → Heap → Prop} (h : t259 x0 x1 H0 Q) : Ct Try.prog 259 [x0, x1] H0 Q :=
  Ct_of_text (fn := Try.f259) h259 (by kernel_rfl) (by kernel_rfl) (by kernel_rfl) (by kernel_rfl) h

def t263 (x0 : V) (H0 : Heap) (Q : V → Heap → Prop) : Prop :=
  pLn false x0 fun v0 =>
  pCall Try.prog 202 [v0, (V.int .i64 2), (V.int .i64 8)] H0 fun v1 H2 =>
  pNot v1 fun v3 =>
  cIf v3
    (pWk (List.length H0) [(V.bool false)] H2 fun xs4 H5 => (Q (nthV xs4 0) H5))
    (pLn false x0 fun v6 =>
    ∃ (I7 : List V → Heap → Prop) (m8 : List V → Heap → Nat), (pWk (List.length H2) [(V.int .i64 0)] H2 fun xs11 H12 => (I7 xs11 H12)) ∧
      ∀ xs9 H10, I7 xs9 H10 →
      pBin EK.other BinOp.lss (xs9.getD 0 V.undef) v6 H10 fun v13 =>
      cIf v13
        (pIndexAddr 3 x0 (xs9.getD 0 V.undef) H10 fun v14 =>
        pLoad true 3 v14 H10 fun v15 =>
        pBox 178 (V.agg [(V.str ({ data := #[] })), (V.int .i64 0), (V.int .i64 0)]) H10 fun v16 H17 =>
        pSt 3 v16 v15 H17 fun H19 =>
        pLoad true 3 v16 H19 fun v21 =>
        pCall Try.prog 291 [v21] H19 fun v22 H23 =>
        pNot v22 fun v24 =>
        cIf v24
          (pWk (List.length H0) [(V.bool false)] H23 fun xs25 H26 => (Q (nthV xs25 0) H26))
          (pSc false 3 x0 none (some (xs9.getD 0 V.undef)) H23 fun v27 =>
          pLn false v27 fun v28 =>
          ∃ (I29 : List V → Heap → Prop) (m30 : List V → Heap → Nat), (pWk (List.length H23) [(V.int .i64 0)] H23 fun xs33 H34 => (I29 xs33 H34)) ∧
            ∀ xs31 H32, I29 xs31 H32 →
            pBin EK.other BinOp.lss (xs31.getD 0 V.undef) v28 H32 fun v35 =>
            cIf v35
              (pIndexAddr 3 v27 (xs31.getD 0 V.undef) H32 fun v36 =>
              pLoad true 3 v36 H32 fun v37 =>
              pBox 178 (V.agg [(V.str ({ data := #[] })), (V.int .i64 0), (V.int .i64 0)]) H32 fun v38 H39 =>
              pSt 3 v38 v37 H39 fun H41 =>
              pFa 0 1 v38 fun v43 =>
              pLoad false 1 v43 H41 fun v44 =>
              pFa 0 1 v16 fun v45 =>
              pLoad false 1 v45 H41 fun v46 =>
              pBin EK.other BinOp.eql v44 v46 H41 fun v47 =>
              cIf v47
                (pWk (List.length H0) [(V.bool false)] H41 fun xs48 H49 => (Q (nthV xs48 0) H49))
                (pFa 2 1 v38 fun v50 =>
                pLoad false 1 v50 H41 fun v51 =>
                pFa 2 1 v16 fun v52 =>
                pLoad false 1 v52 H41 fun v53 =>
                pBin EK.other BinOp.eql v51 v53 H41 fun v54 =>
                cIf v54
                  (pWk (List.length H0) [(V.bool false)] H41 fun xs55 H56 => (Q (nthV xs55 0) H56))
                  (pBin EK.other BinOp.add (xs31.getD 0 V.undef) (V.int .i64 1) H41 fun v57 =>
                  pWk (List.length H23) [v57] H41 fun xs58 H59 => (I29 xs58 H59) ∧ m30 xs58 H59 < m30 xs31 H32)))
              (pBin EK.other BinOp.add (xs9.getD 0 V.undef) (V.int .i64 1) H32 fun v60 =>
              pWk (List.length H2) [v60] H32 fun xs61 H62 => (I7 xs61 H62) ∧ m8 xs61 H62 < m8 xs9 H10)))
        (pWk (List.length H0) [(V.bool true)] H10 fun xs63 H64 => (Q (nthV xs63 0) H64)))
def h263 : Nat → Option (List Nat)
  | 4 => some [13]
  | 9 => some [25]
  | _ => none
theorem c263 {x0 : V} {H0 : Heap} {Q : V → Heap → Prop} (h : t263 x0 H0 Q) : Ct Try.prog 263 [x0] H0 Q :=
  Ct_of_text (fn := Try.f263) h263 (by kernel_rfl) (by kernel_rfl) (by kernel_rfl) (by kernel_rfl) h

def t264 (x0 : V) (H0 : Heap) (Q : V → Heap → Prop) : Prop :=
  pBox 26 x0 H0 fun v0 H1 =>
  pFa 0 1 v0 fun v2 =>
  pLoad false 1 v2 H1 fun v3 =>
  pCall Try.prog 202 [v3, (V.int .i64 0), (V.int .i64 10)] H1 fun v4 H5 =>
  pNot v4 fun v6 =>
  cIf v6
    (pWk (List.length H0) [(V.bool false)] H5 fun xs7 H8 => (Q (nthV xs7 0) H8))
    (pFa 1 1 v0 fun v9 =>
    pLoad false 1 v9 H5 fun v10 =>
    pFa 0 1 v0 fun v11 =>
    pLoad false 1 v11 H5 fun v12 =>
    pCall Try.prog 202 [v10, (V.int .i64 0), v12] H5 fun v13 H14 =>
    pNot v13 fun v15 =>
    cIf v15
      (pWk (List.length H0) [(V.bool false)] H14 fun xs16 H17 => (Q (nthV xs16 0) H17))
      (pFa 2 1 v0 fun v18 =>
      pLoad false 1 v18 H14 fun v19 =>
      pFa 1 1 v0 fun v20 =>
      pLoad false 1 v20 H14 fun v21 =>
      pCall Try.prog 202 [v19, (V.int .i64 0), v21] H14 fun v22 H23 =>
      pNot v22 fun v24 =>
      cIf v24
        (pWk (List.length H0) [(V.bool false)] H23 fun xs25 H26 => (Q (nthV xs25 0) H26))
        (pFa 3 1 v0 fun v27 =>
        pLoad false 1 v27 H23 fun v28 =>
        pLn false v28 fun v29 =>
        pCall Try.prog 202 [v29, (V.int .i64 1), (V.int .i64 8)] H23 fun v30 H31 =>
        pNot v30 fun v32 =>
        cIf v32
          (pWk (List.length H0) [(V.bool false)] H31 fun xs33 H34 => (Q (nthV xs33 0) H34))
          (pFa 3 1 v0 fun v35 =>
          pLoad false 1 v35 H31 fun v36 =>
          pLn false v36 fun v37 =>
          ∃ (I38 : List V → Heap → Prop) (m39 : List V → Heap → Nat), (pWk (List.length H31) [(V.int .i64 0)] H31 fun xs42 H43 => (I38 xs42 H43)) ∧
            ∀ xs40 H41, I38 xs40 H41 →
            pBin EK.other BinOp.lss (xs40.getD 0 V.undef) v37 H41 fun v44 =>
            cIf v44
              (pIndexAddr 1 v36 (xs40.getD 0 V.undef) H41 fun v45 =>
              pLoad false 1 v45 H41 fun v46 =>
              pCall Try.prog 202 [v46, (V.int .i64 1), (V.int .i64 8)] H41 fun v47 H48 =>
              pNot v47 fun v49 =>
              cIf v49
                (pWk (List.length H0) [(V.bool false)] H48 fun xs50 H51 => (Q (nthV xs50 0) H51))
                (pFa 3 1 v0 fun v52 =>
                pLoad false 1 v52 H48 fun v53 =>
                pSc false 1 v53 none (some (xs40.getD 0 V.undef)) H48 fun v54 =>
                pCall Try.prog 217 [v54, v46] H48 fun v55 H56 =>
                cIf v55
                  (pWk (List.length H0) [(V.bool false)] H56 fun xs57 H58 => (Q (nthV xs57 0) H58))
                  (pBin EK.other BinOp.add (xs40.getD 0 V.undef) (V.int .i64 1) H56 fun v59 =>
                  pWk (List.length H31) [v59] H56 fun xs60 H61 => (I38 xs60 H61) ∧ m39 xs60 H61 < m39 xs40 H41)))
              (pWk (List.length H0) [(V.bool true)] H41 fun xs62 H63 => (Q (nthV xs62 0) H63))))))
def h264 : Nat → Option (List Nat)
  | 4 => some [35]
  | _ => none
theorem c264 {x0 : V} {H0 : Heap} {Q : V → Heap → Prop} (h : t264 x0 H0 Q) : Ct Try.prog 264 [x0] H0 Q :=
  Ct_of_text (fn := Try.f264) h264 (by kernel_rfl) (by kernel_rfl) (by kernel_rfl) (by kernel_rfl) h

def t265 (x0 x1 : V) (H0 : Heap) (Q : V → Heap → Prop) : Prop :=
  pLn false x1 fun v0 =>
  pBin EK.other BinOp.gtr v0 (V.int .i64 60) H0 fun v1 =>
  cIf v1
    (pWk (List.length H0) [(V.bool false)] H0 fun xs2 H3 => (Q (nthV xs2 0) H3))
    (pLn false x1 fun v4 =>
    ∃ (I5 : List V → Heap → Prop) (m6 : List V → Heap → Nat), (pWk (List.length H0) [(V.int .i64 0)] H0 fun xs9 H10 => (I5 xs9 H10)) ∧
      ∀ xs7 H8, I5 xs7 H8 →
      pBin EK.other BinOp.lss (xs7.getD 0 V.undef) v4 H8 fun v11 =>
      cIf v11
        (pIndexAddr 5 x1 (xs7.getD 0 V.undef) H8 fun v12 =>
        pLoad true 5 v12 H8 fun v13 =>
        pBox 40 (V.agg [(V.int .i64 0), (V.int .i64 0), (V.int .i64 0), (V.int .i64 0), (V.int .i64 0)]) H8 fun v14 H15 =>
        pSt 5 v14 v13 H15 fun H17 =>
        pLoad true 5 v14 H17 fun v19 =>
        pCall Try.prog 292 [x0, v19] H17 fun v20 H21 =>
        pNot v20 fun v22 =>
        cIf v22
          (pWk (List.length H0) [(V.bool false)] H21 fun xs23 H24 => (Q (nthV xs23 0) H24))
          (pFa 0 1 v14 fun v25 =>
          pLoad false 1 v25 H21 fun v26 =>
          pFa 1 1 v14 fun v27 =>
          pLoad false 1 v27 H21 fun v28 =>
          pCall Try.prog 293 [x1, v26, v28] H21 fun v29 H30 =>
          pBin EK.other BinOp.neq v29 (xs7.getD 0 V.undef) H30 fun v31 =>
          cIf v31
            (pWk (List.length H0) [(V.bool false)] H30 fun xs32 H33 => (Q (nthV xs32 0) H33))
            (pBin EK.other BinOp.add (xs7.getD 0 V.undef) (V.int .i64 1) H30 fun v34 =>
            pWk (List.length H0) [v34] H30 fun xs35 H36 => (I5 xs35 H36) ∧ m6 xs35 H36 < m6 xs7 H8)))
        (pWk (List.length H0) [(V.bool true)] H8 fun xs37 H38 => (Q (nthV xs37 0) H38)))
def h265 : Nat → Option (List Nat)
  | 4 => some [12]
  | _ => none
theorem c265 {x0 x1 : V} {H0 : Heap} {Q : V → Heap → Prop} (h : t265 x0 x1 H0 Q) : Ct Try.prog 265 [x0, x1] H0 Q :=
  Ct_of_text (fn := Try.f265) h265 (by kernel_rfl) (by kernel_rfl) (by kernel_rfl) (by kernel_rfl) h

def t291 (x0 : V) (H0 : Heap) (Q : V → Heap → Prop) : Prop :=
  pBox 178 x0 H0 fun v0 H1 =>
  pFa 0 1 v0 fun v2 =>
  pLoad false 1 v2 H1 fun v3 =>
  pCall Try.prog 316 [v3] H1 fun v4 H5 =>
  cIf v4
    (pFa 1 1 v0 fun v6 =>
    pLoad false 1 v6 H5 fun v7 =>
    pCall Try.prog 202 [v7, (V.int .i64 0), (V.int .i64 5)] H5 fun v8 H9 =>
    cIf v8
      (pFa 2 1 v0 fun v10 =>
      pLoad false 1 v10 H9 fun v11 =>
      pCall Try.prog 202 [v11, (V.int .i64 1), (V.int .i64 8)] H9 fun v12 H13 =>
      pWk (List.length H0) [v12] H13 fun xs14 H15 => (Q (nthV xs14 0) H15))
      (pWk (List.length H0) [(V.bool false)] H9 fun xs16 H17 => (Q (nthV xs16 0) H17)))
    (pWk (List.length H0) [(V.bool false)] H5 fun xs18 H19 => (Q (nthV xs18 0) H19))
def h291 : Nat → Option (List Nat)
  | _ => none
theorem c291 {x0 : V} {H0 : Heap} {Q : V → Heap → Prop} (h : t291 x0 H0 Q) : Ct Try.prog 291 [x0] H0 Q :=
  Ct_of_text (fn := Try.f291) h291 (by kernel_rfl) (by kernel_rfl) (by kernel_rfl) (by kernel_rfl) h

def t292 (x0 x1 : V) (H0 : Heap) (Q : V → Heap → Prop) : Prop :=
  pBox 40 x1 H0 fun v0 H1 =>
  pCall Try.prog 202 [x0, (V.int .i64 2), (V.int .i64 8)] H1 fun v2 H3 =>
  pNot v2 fun v4 =>
  cIf v4
    (pWk (List.length H0) [(V.bool false)] H3 fun xs5 H6 => (Q (nthV xs5 0) H6))
    (pFa 0 1 v0 fun v7 =>
    pLoad false 1 v7 H3 fun v8 =>
    pBin EK.other BinOp.sub x0 (V.int .i64 1) H3 fun v9 =>
    pCall Try.prog 202 [v8, (V.int .i64 0), v9] H3 fun v10 H11 =>
    pNot v10 fun v12 =>
    cIf v12
      (pWk (List.length H0) [(V.bool false)] H11 fun xs13 H14 => (Q (nthV xs13 0) H14))
      (pFa 1 1 v0 fun v15 =>
      pLoad false 1 v15 H11 fun v16 =>
      pBin EK.other BinOp.sub x0 (V.int .i64 1) H11 fun v17 =>
      pCall Try.prog 202 [v16, (V.int .i64 0), v17] H11 fun v18 H19 =>
      pNot v18 fun v20 =>
      cIf v20
        (pWk (List.length H0) [(V.bool false)] H19 fun xs21 H22 => (Q (nthV xs21 0) H22))
        (pFa 0 1 v0 fun v23 =>
        pLoad false 1 v23 H19 fun v24 =>
        pFa 1 1 v0 fun v25 =>
        pLoad false 1 v25 H19 fun v26 =>
        pBin EK.other BinOp.eql v24 v26 H19 fun v27 =>
        cIf v27
          (pWk (List.length H0) [(V.bool false)] H19 fun xs28 H29 => (Q (nthV xs28 0) H29))
          (pFa 4 1 v0 fun v30 =>
          pLoad false 1 v30 H19 fun v31 =>
          pCall Try.prog 202 [v31, (V.int .i64 0), (V.int .i64 4)] H19 fun v32 H33 =>
          pNot v32 fun v34 =>
          cIf v34
            (pWk (List.length H0) [(V.bool false)] H33 fun xs35 H36 => (Q (nthV xs35 0) H36))
            (pFa 4 1 v0 fun v37 =>
            pLoad false 1 v37 H33 fun v38 =>
            pBin EK.other BinOp.neq v38 (V.int .i64 1) H33 fun v39 =>
            cIf v39
              (pFa 2 1 v0 fun v40 =>
              pLoad false 1 v40 H33 fun v41 =>
              pBin EK.other BinOp.eql v41 (V.int .i64 0) H33 fun v42 =>
              cIf v42
                (pFa 3 1 v0 fun v43 =>
                pLoad false 1 v43 H33 fun v44 =>
                pBin EK.other BinOp.eql v44 (V.int .i64 0) H33 fun v45 =>
                pWk (List.length H0) [v45] H33 fun xs46 H47 => (Q (nthV xs46 0) H47))
                (pWk (List.length H0) [(V.bool false)] H33 fun xs48 H49 => (Q (nthV xs48 0) H49)))
              (pFa 2 1 v0 fun v50 =>
              pLoad false 1 v50 H33 fun v51 =>
              pCall Try.prog 202 [v51, (V.int .i64 0), (V.int .i64 99)] H33 fun v52 H53 =>
              cIf v52
                (pFa 3 1 v0 fun v54 =>
                pLoad false 1 v54 H53 fun v55 =>
                pCall Try.prog 202 [v55, (V.int .i64 0), (V.int .i64 99)] H53 fun v56 H57 =>
                pWk (List.length H0) [v56] H57 fun xs58 H59 => (Q (nthV xs58 0) H59))
                (pWk (List.length H0) [(V.bool false)] H53 fun xs60 H61 => (Q (nthV xs60 0) H61))))))))
def h292 : Nat → Option (List Nat)
  | _ => none
theorem c292 {x0 x1 : V} {H0 : Heap} {Q : V → Heap → Prop} (h : t292 x0 x1 H0 Q) : Ct Try.prog 292 [x0, x1] H0 Q :=
  Ct_of_text (fn := Try.f292) h292 (by kernel_rfl) (by kernel_rfl) (by kernel_rfl) (by kernel_rfl) h

def t293 (x0 x1 x2 : V) (H0 : Heap) (Q : V → Heap → Prop) : Prop :=
  pLn false x0 fun v0 =>
  ∃ (I1 : List V → Heap → Prop) (m2 : List V → Heap → Nat), (pWk (List.length H0) [(V.int .i64 0)] H0 fun xs5 H6 => (I1 xs5 H6)) ∧
    ∀ xs3 H4, I1 xs3 H4 →
    pBin EK.other BinOp.lss (xs3.getD 0 V.undef) v0 H4 fun v7 =>
    cIf v7
      (pIndexAddr 5 x0 (xs3.getD 0 V.undef) H4 fun v8 =>
      pLoad true 5 v8 H4 fun v9 =>
      pBox 40 (V.agg [(V.int .i64 0), (V.int .i64 0), (V.int .i64 0), (V.int .i64 0), (V.int .i64 0)]) H4 fun v10 H11 =>
      pSt 5 v10 v9 H11 fun H13 =>
      pFa 0 1 v10 fun v15 =>
      pLoad false 1 v15 H13 fun v16 =>
      pBin EK.other BinOp.eql v16 x1 H13 fun v17 =>
      cIf v17
        (pFa 1 1 v10 fun v18 =>
        pLoad false 1 v18 H13 fun v19 =>
        pBin EK.other BinOp.eql v19 x2 H13 fun v20 =>
        cIf v20
          (pWk (List.length H0) [(xs3.getD 0 V.undef)] H13 fun xs21 H22 => (Q (nthV xs21 0) H22))
          (pBin EK.other BinOp.add (xs3.getD 0 V.undef) (V.int .i64 1) H13 fun v23 =>
          pWk (List.length H0) [v23] H13 fun xs24 H25 => (I1 xs24 H25) ∧ m2 xs24 H25 < m2 xs3 H4))
        (pBin EK.other BinOp.add (xs3.getD 0 V.undef) (V.int .i64 1) H13 fun v26 =>
        pWk (List.length H0) [v26] H13 fun xs27 H28 => (I1 xs27 H28) ∧ m2 xs27 H28 < m2 xs3 H4))
      (pWk (List.length H0) [(V.int .i64 (-1))] H4 fun xs29 H30 => (Q (nthV xs29 0) H30))
def h293 : Nat → Option (List Nat)
  | 2 => some [11]
  | _ => none
theorem c293 {x0 x1 x2 : V} {H0 : Heap} {Q : V → Heap → Prop} (h : t293 x0 x1 x2 H0 Q) : Ct Try.prog 293 [x0, x1, x2] H0 Q :=
  Ct_of_text (fn := Try.f293) h293 (by kernel_rfl) (by kernel_rfl) (by kernel_rfl) (by kernel_rfl) h

def t316 (x0 : V) (H0 : Heap) (Q : V → Heap → Prop) : Prop :=
  ∃ (I0 : List V → Heap → Prop) (m1 : List V → Heap → Nat), (pWk (List.length H0) [(V.int .i64 0)] H0 fun xs4 H5 => (I0 xs4 H5)) ∧
    ∀ xs2 H3, I0 xs2 H3 →
    pLn true x0 fun v6 =>
    pBin EK.other BinOp.lss (xs2.getD 0 V.undef) v6 H3 fun v7 =>
    cIf v7
      (pAt x0 (xs2.getD 0 V.undef) fun v8 =>
      pBin EK.other BinOp.geq v8 (V.int .u8 97) H3 fun v9 =>
      cIf v9
        (pAt x0 (xs2.getD 0 V.undef) fun v10 =>
        pBin EK.other BinOp.leq v10 (V.int .u8 122) H3 fun v11 =>
        pNot v11 fun v12 =>
        cIf v12
          (pBin EK.other BinOp.eql (xs2.getD 0 V.undef) (V.int .i64 0) H3 fun v13 =>
          cIf v13
            (pWk (List.length H0) [(V.bool false)] H3 fun xs14 H15 => (Q (nthV xs14 0) H15))
            (pAt x0 (xs2.getD 0 V.undef) fun v16 =>
            pBin EK.other BinOp.lss v16 (V.int .u8 48) H3 fun v17 =>
            cIf v17
              (pWk (List.length H0) [(V.bool false)] H3 fun xs18 H19 => (Q (nthV xs18 0) H19))
              (pAt x0 (xs2.getD 0 V.undef) fun v20 =>
              pBin EK.other BinOp.gtr v20 (V.int .u8 57) H3 fun v21 =>
              cIf v21
                (pWk (List.length H0) [(V.bool false)] H3 fun xs22 H23 => (Q (nthV xs22 0) H23))
                (pBin EK.other BinOp.add (xs2.getD 0 V.undef) (V.int .i64 1) H3 fun v24 =>
                pWk (List.length H0) [v24] H3 fun xs25 H26 => (I0 xs25 H26) ∧ m1 xs25 H26 < m1 xs2 H3))))
          (pBin EK.other BinOp.add (xs2.getD 0 V.undef) (V.int .i64 1) H3 fun v27 =>
          pWk (List.length H0) [v27] H3 fun xs28 H29 => (I0 xs28 H29) ∧ m1 xs28 H29 < m1 xs2 H3))
        (pNot (V.bool false) fun v30 =>
        cIf v30
          (pBin EK.other BinOp.eql (xs2.getD 0 V.undef) (V.int .i64 0) H3 fun v31 =>
          cIf v31
            (pWk (List.length H0) [(V.bool false)] H3 fun xs32 H33 => (Q (nthV xs32 0) H33))
            (pAt x0 (xs2.getD 0 V.undef) fun v34 =>
            pBin EK.other BinOp.lss v34 (V.int .u8 48) H3 fun v35 =>
            cIf v35
              (pWk (List.length H0) [(V.bool false)] H3 fun xs36 H37 => (Q (nthV xs36 0) H37))
              (pAt x0 (xs2.getD 0 V.undef) fun v38 =>
              pBin EK.other BinOp.gtr v38 (V.int .u8 57) H3 fun v39 =>
              cIf v39
                (pWk (List.length H0) [(V.bool false)] H3 fun xs40 H41 => (Q (nthV xs40 0) H41))
                (pBin EK.other BinOp.add (xs2.getD 0 V.undef) (V.int .i64 1) H3 fun v42 =>
                pWk (List.length H0) [v42] H3 fun xs43 H44 => (I0 xs43 H44) ∧ m1 xs43 H44 < m1 xs2 H3))))
          (pBin EK.other BinOp.add (xs2.getD 0 V.undef) (V.int .i64 1) H3 fun v45 =>
          pWk (List.length H0) [v45] H3 fun xs46 H47 => (I0 xs46 H47) ∧ m1 xs46 H47 < m1 xs2 H3)))
      (pLn true x0 fun v48 =>
      pCall Try.prog 202 [v48, (V.int .i64 1), (V.int .i64 8)] H3 fun v49 H50 =>
      pWk (List.length H0) [v49] H50 fun xs51 H52 => (Q (nthV xs51 0) H52))
def h316 : Nat → Option (List Nat)
  | 2 => some [3]
  | _ => none
theorem c316 {x0 : V} {H0 : Heap} {Q : V → Heap → Prop} (h : t316 x0 H0 Q) : Ct Try.prog 316 [x0] H0 Q :=
  Ct_of_text (fn := Try.f316) h316 (by kernel_rfl) (by kernel_rfl) (by kernel_rfl) (by kernel_rfl) h

end Go.Sim
