/- The texts of the functions that mark, of the reference for withdrawals and points lost. -/
import Derived.Test.YtahdgiaddhoaoaaSimC
import Derived.Test.YtahdgiaddhoaoaaProg

set_option maxRecDepth 100000
namespace Go.Sim
open Go.Proofs

def t266 (x0 : V) (H0 : Heap) (Q : V → Heap → Prop) : Prop :=
  pBin EK.other BinOp.leq x0 (V.int .i64 0) H0 fun v0 =>
  cIf v0
    (pWk (List.length H0) [(V.str ({ data := #[109, 48] }))] H0 fun xs1 H2 => (Q (nthV xs1 0) H2))
    (∃ (I3 : List V → Heap → Prop) (m4 : List V → Heap → Nat), (pWk (List.length H0) [x0, (V.str ({ data := #[] }))] H0 fun xs7 H8 => (I3 xs7 H8)) ∧
      ∀ xs5 H6, I3 xs5 H6 →
      pBin EK.other BinOp.gtr (xs5.getD 0 V.undef) (V.int .i64 0) H6 fun v9 =>
      cIf v9
        (pBin EK.other BinOp.rem (xs5.getD 0 V.undef) (V.int .i64 10) H6 fun v10 =>
        pBin EK.other BinOp.add (V.int .i64 48) v10 H6 fun v11 =>
        pConvInt .u8 v11 fun v12 =>
        pBs 5 1 (V.int .u8 0) 1 [0] [v12] H6 fun v13 H14 =>
        pConvX Try.prog 22 9 v13 H14 fun v15 =>
        pBin EK.other BinOp.add v15 (xs5.getD 1 V.undef) H14 fun v16 =>
        pBin EK.other BinOp.quo (xs5.getD 0 V.undef) (V.int .i64 10) H14 fun v17 =>
        pWk (List.length H0) [v17, v16] H14 fun xs18 H19 => (I3 xs18 H19) ∧ m4 xs18 H19 < m4 xs5 H6)
        (pBin EK.other BinOp.add (V.str ({ data := #[109] })) (xs5.getD 1 V.undef) H6 fun v20 =>
        pWk (List.length H0) [v20] H6 fun xs21 H22 => (Q (nthV xs21 0) H22)))
def h266 : Nat → Option (List Nat)
  | 4 => some [0, 3]
  | _ => none
theorem c266 {x0 : V} {H0 : Heap} {Q : V → Heap → Prop} (h : t266 x0 H0 Q) : Ct Try.prog 266 [x0] H0 Q :=
  Ct_of_text (fn := Try.f266) h266 (by kernel_rfl) (by kernel_rfl) (by kernel_rfl) (by kernel_rfl) h

def t88 (x0 x1 : V) (H0 : Heap) (Q : V → Heap → Prop) : Prop :=
  ∃ (I0 : List V → Heap → Prop) (m1 : List V → Heap → Nat), (pWk (List.length H0) [x1, (V.int .i64 0)] H0 fun xs4 H5 => (I0 xs4 H5)) ∧
    ∀ xs2 H3, I0 xs2 H3 →
    pLn false x0 fun v6 =>
    pBin EK.other BinOp.lss (xs2.getD 1 V.undef) v6 H3 fun v7 =>
    cIf v7
      (pIndexAddr 1 x0 (xs2.getD 1 V.undef) H3 fun v8 =>
      pSt 1 v8 (xs2.getD 0 V.undef) H3 fun H10 =>
      pBin EK.other BinOp.add (xs2.getD 0 V.undef) (V.int .i64 1) H10 fun v12 =>
      pBin EK.other BinOp.add (xs2.getD 1 V.undef) (V.int .i64 1) H10 fun v13 =>
      pWk (List.length H0) [v12, v13] H10 fun xs14 H15 => (I0 xs14 H15) ∧ m1 xs14 H15 < m1 xs2 H3)
      (pWk (List.length H0) [(xs2.getD 0 V.undef)] H3 fun xs16 H17 => (Q (nthV xs16 0) H17))
def h88 : Nat → Option (List Nat)
  | 2 => some [1, 5]
  | _ => none
theorem c88 {x0 x1 : V} {H0 : Heap} {Q : V → Heap → Prop} (h : t88 x0 x1 H0 Q) : Ct Try.prog 88 [x0, x1] H0 Q :=
  Ct_of_text (fn := Try.f88) h88 (by kernel_rfl) (by kernel_rfl) (by kernel_rfl) (by kernel_rfl) h

def t205 (x0 x1 : V) (H0 : Heap) (Q : V → Heap → Prop) : Prop :=
  ∃ (I0 : List V → Heap → Prop) (m1 : List V → Heap → Nat), (pWk (List.length H0) [x1, (V.int .i64 0)] H0 fun xs4 H5 => (I0 xs4 H5)) ∧
    ∀ xs2 H3, I0 xs2 H3 →
    pLn false x0 fun v6 =>
    pBin EK.other BinOp.lss (xs2.getD 1 V.undef) v6 H3 fun v7 =>
    cIf v7
      (pCall Try.prog 266 [(xs2.getD 0 V.undef)] H3 fun v8 H9 =>
      pIndexAddr 3 x0 (xs2.getD 1 V.undef) H9 fun v10 =>
      pFa 0 1 v10 fun v11 =>
      pSt 1 v11 v8 H9 fun H13 =>
      pBin EK.other BinOp.add (xs2.getD 0 V.undef) (V.int .i64 1) H13 fun v15 =>
      pIndexAddr 3 x0 (xs2.getD 1 V.undef) H13 fun v16 =>
      pFa 1 1 v16 fun v17 =>
      pSt 1 v17 v15 H13 fun H19 =>
      pBin EK.other BinOp.add v15 (V.int .i64 1) H19 fun v21 =>
      pIndexAddr 3 x0 (xs2.getD 1 V.undef) H19 fun v22 =>
      pFa 2 1 v22 fun v23 =>
      pSt 1 v23 v21 H19 fun H25 =>
      pBin EK.other BinOp.add v21 (V.int .i64 1) H25 fun v27 =>
      pBin EK.other BinOp.add (xs2.getD 1 V.undef) (V.int .i64 1) H25 fun v28 =>
      pWk (List.length H0) [v27, v28] H25 fun xs29 H30 => (I0 xs29 H30) ∧ m1 xs29 H30 < m1 xs2 H3)
      (pWk (List.length H0) [(xs2.getD 0 V.undef)] H3 fun xs31 H32 => (Q (nthV xs31 0) H32))
def h205 : Nat → Option (List Nat)
  | 2 => some [1, 5]
  | _ => none
theorem c205 {x0 x1 : V} {H0 : Heap} {Q : V → Heap → Prop} (h : t205 x0 x1 H0 Q) : Ct Try.prog 205 [x0, x1] H0 Q :=
  Ct_of_text (fn := Try.f205) h205 (by kernel_rfl) (by kernel_rfl) (by kernel_rfl) (by kernel_rfl) h

def t206 (x0 x1 : V) (H0 : Heap) (Q : V → Heap → Prop) : Prop :=
  pBox 26 x0 H0 fun v0 H1 =>
  pFa 3 1 v0 fun v2 =>
  pLoad false 1 v2 H1 fun v3 =>
  pCall Try.prog 88 [v3, x1] H1 fun v4 H5 =>
  pWk (List.length H0) [v4] H5 fun xs6 H7 => (Q (nthV xs6 0) H7)
def h206 : Nat → Option (List Nat)
  | _ => none
theorem c206 {x0 x1 : V} {H0 : Heap} {Q : V → Heap → Prop} (h : t206 x0 x1 H0 Q) : Ct Try.prog 206 [x0, x1] H0 Q :=
  Ct_of_text (fn := Try.f206) h206 (by kernel_rfl) (by kernel_rfl) (by kernel_rfl) (by kernel_rfl) h

def t207 (x0 x1 : V) (H0 : Heap) (Q : V → Heap → Prop) : Prop :=
  ∃ (I0 : List V → Heap → Prop) (m1 : List V → Heap → Nat), (pWk (List.length H0) [x1, (V.int .i64 0)] H0 fun xs4 H5 => (I0 xs4 H5)) ∧
    ∀ xs2 H3, I0 xs2 H3 →
    pLn false x0 fun v6 =>
    pBin EK.other BinOp.lss (xs2.getD 1 V.undef) v6 H3 fun v7 =>
    cIf v7
      (pIndexAddr 5 x0 (xs2.getD 1 V.undef) H3 fun v8 =>
      pFa 0 1 v8 fun v9 =>
      pSt 1 v9 (xs2.getD 0 V.undef) H3 fun H11 =>
      pBin EK.other BinOp.add (xs2.getD 0 V.undef) (V.int .i64 1) H11 fun v13 =>
      pIndexAddr 5 x0 (xs2.getD 1 V.undef) H11 fun v14 =>
      pFa 1 1 v14 fun v15 =>
      pSt 1 v15 v13 H11 fun H17 =>
      pBin EK.other BinOp.add v13 (V.int .i64 1) H17 fun v19 =>
      pIndexAddr 5 x0 (xs2.getD 1 V.undef) H17 fun v20 =>
      pFa 2 1 v20 fun v21 =>
      pSt 1 v21 v19 H17 fun H23 =>
      pBin EK.other BinOp.add v19 (V.int .i64 1) H23 fun v25 =>
      pIndexAddr 5 x0 (xs2.getD 1 V.undef) H23 fun v26 =>
      pFa 3 1 v26 fun v27 =>
      pSt 1 v27 v25 H23 fun H29 =>
      pBin EK.other BinOp.add v25 (V.int .i64 1) H29 fun v31 =>
      pIndexAddr 5 x0 (xs2.getD 1 V.undef) H29 fun v32 =>
      pFa 4 1 v32 fun v33 =>
      pSt 1 v33 v31 H29 fun H35 =>
      pBin EK.other BinOp.add v31 (V.int .i64 1) H35 fun v37 =>
      pBin EK.other BinOp.add (xs2.getD 1 V.undef) (V.int .i64 1) H35 fun v38 =>
      pWk (List.length H0) [v37, v38] H35 fun xs39 H40 => (I0 xs39 H40) ∧ m1 xs39 H40 < m1 xs2 H3)
      (pWk (List.length H0) [(xs2.getD 0 V.undef)] H3 fun xs41 H42 => (Q (nthV xs41 0) H42))
def h207 : Nat → Option (List Nat)
  | 2 => some [1, 5]
  | _ => none
theorem c207 {x0 x1 : V} {H0 : Heap} {Q : V → Heap → Prop} (h : t207 x0 x1 H0 Q) : Ct Try.prog 207 [x0, x1] H0 Q :=
  Ct_of_text (fn := Try.f207) h207 (by kernel_rfl) (by kernel_rfl) (by kernel_rfl) (by kernel_rfl) h

def t91 (x0 x1 : V) (H0 : Heap) (Q : V → Heap → Prop) : Prop :=
  pBox 29 x0 H0 fun v0 H1 =>
  pFa 0 1 v0 fun v2 =>
  pLoad false 1 v2 H1 fun v3 =>
  pCall Try.prog 205 [v3, x1] H1 fun v4 H5 =>
  pFa 1 5 v0 fun v6 =>
  pLoad true 5 v6 H5 fun v7 =>
  pCall Try.prog 206 [v7, v4] H5 fun v8 H9 =>
  pFa 6 1 v0 fun v10 =>
  pLoad false 1 v10 H9 fun v11 =>
  pCall Try.prog 207 [v11, v8] H9 fun v12 H13 =>
  pFa 7 1 v0 fun v14 =>
  pLoad false 1 v14 H13 fun v15 =>
  pCall Try.prog 88 [v15, v12] H13 fun v16 H17 =>
  pFa 8 1 v0 fun v18 =>
  pLoad false 1 v18 H17 fun v19 =>
  pCall Try.prog 88 [v19, v16] H17 fun v20 H21 =>
  pWk (List.length H0) [v20] H21 fun xs22 H23 => (Q (nthV xs22 0) H23)
def h91 : Nat → Option (List Nat)
  | _ => none
theorem c91 {x0 x1 : V} {H0 : Heap} {Q : V → Heap → Prop} (h : t91 x0 x1 H0 Q) : Ct Try.prog 91 [x0, x1] H0 Q :=
  Ct_of_text (fn := Try.f91) h91 (by kernel_rfl) (by kernel_rfl) (by kernel_rfl) (by kernel_rfl) h

def t99 (x0 x1 : V) (H0 : Heap) (Q : V → Heap → Prop) : Prop :=
  ∃ (I0 : List V → Heap → Prop) (m1 : List V → Heap → Nat), (pWk (List.length H0) [x1, (V.int .i64 0)] H0 fun xs4 H5 => (I0 xs4 H5)) ∧
    ∀ xs2 H3, I0 xs2 H3 →
    pLn false x0 fun v6 =>
    pBin EK.other BinOp.lss (xs2.getD 1 V.undef) v6 H3 fun v7 =>
    cIf v7
      (pIndexAddr 1 x0 (xs2.getD 1 V.undef) H3 fun v8 =>
      pLoad false 1 v8 H3 fun v9 =>
      pBin EK.other BinOp.neq v9 (xs2.getD 0 V.undef) H3 fun v10 =>
      cIf v10
        (pWk (List.length H0) [(V.int .i64 (-1))] H3 fun xs11 H12 => (Q (nthV xs11 0) H12))
        (pBin EK.other BinOp.add (xs2.getD 0 V.undef) (V.int .i64 1) H3 fun v13 =>
        pBin EK.other BinOp.add (xs2.getD 1 V.undef) (V.int .i64 1) H3 fun v14 =>
        pWk (List.length H0) [v13, v14] H3 fun xs15 H16 => (I0 xs15 H16) ∧ m1 xs15 H16 < m1 xs2 H3))
      (pWk (List.length H0) [(xs2.getD 0 V.undef)] H3 fun xs17 H18 => (Q (nthV xs17 0) H18))
def h99 : Nat → Option (List Nat)
  | 2 => some [1, 5]
  | _ => none
theorem c99 {x0 x1 : V} {H0 : Heap} {Q : V → Heap → Prop} (h : t99 x0 x1 H0 Q) : Ct Try.prog 99 [x0, x1] H0 Q :=
  Ct_of_text (fn := Try.f99) h99 (by kernel_rfl) (by kernel_rfl) (by kernel_rfl) (by kernel_rfl) h

def t208 (x0 x1 : V) (H0 : Heap) (Q : V → Heap → Prop) : Prop :=
  ∃ (I0 : List V → Heap → Prop) (m1 : List V → Heap → Nat), (pWk (List.length H0) [x1, (V.int .i64 0)] H0 fun xs4 H5 => (I0 xs4 H5)) ∧
    ∀ xs2 H3, I0 xs2 H3 →
    pLn false x0 fun v6 =>
    pBin EK.other BinOp.lss (xs2.getD 1 V.undef) v6 H3 fun v7 =>
    cIf v7
      (pIndexAddr 3 x0 (xs2.getD 1 V.undef) H3 fun v8 =>
      pFa 0 1 v8 fun v9 =>
      pLoad false 1 v9 H3 fun v10 =>
      pCall Try.prog 266 [(xs2.getD 0 V.undef)] H3 fun v11 H12 =>
      (keepV v9 H3 H12 ∧ (keepV x0 H3 H12 ∧ True)) ∧ pBin EK.other BinOp.neq v10 v11 H12 fun v13 =>
      cIf v13
        (pWk (List.length H0) [(V.int .i64 (-1))] H12 fun xs14 H15 => (Q (nthV xs14 0) H15))
        (pBin EK.other BinOp.add (xs2.getD 0 V.undef) (V.int .i64 1) H12 fun v16 =>
        pIndexAddr 3 x0 (xs2.getD 1 V.undef) H12 fun v17 =>
        pFa 1 1 v17 fun v18 =>
        pLoad false 1 v18 H12 fun v19 =>
        pBin EK.other BinOp.neq v19 v16 H12 fun v20 =>
        cIf v20
          (pWk (List.length H0) [(V.int .i64 (-1))] H12 fun xs21 H22 => (Q (nthV xs21 0) H22))
          (pBin EK.other BinOp.add v16 (V.int .i64 1) H12 fun v23 =>
          pIndexAddr 3 x0 (xs2.getD 1 V.undef) H12 fun v24 =>
          pFa 2 1 v24 fun v25 =>
          pLoad false 1 v25 H12 fun v26 =>
          pBin EK.other BinOp.neq v26 v23 H12 fun v27 =>
          cIf v27
            (pWk (List.length H0) [(V.int .i64 (-1))] H12 fun xs28 H29 => (Q (nthV xs28 0) H29))
            (pBin EK.other BinOp.add v23 (V.int .i64 1) H12 fun v30 =>
            pBin EK.other BinOp.add (xs2.getD 1 V.undef) (V.int .i64 1) H12 fun v31 =>
            pWk (List.length H0) [v30, v31] H12 fun xs32 H33 => (I0 xs32 H33) ∧ m1 xs32 H33 < m1 xs2 H3))))
      (pWk (List.length H0) [(xs2.getD 0 V.undef)] H3 fun xs34 H35 => (Q (nthV xs34 0) H35))
def h208 : Nat → Option (List Nat)
  | 2 => some [1, 5]
  | _ => none
theorem c208 {x0 x1 : V} {H0 : Heap} {Q : V → Heap → Prop} (h : t208 x0 x1 H0 Q) : Ct Try.prog 208 [x0, x1] H0 Q :=
  Ct_of_text (fn := Try.f208) h208 (by kernel_rfl) (by kernel_rfl) (by kernel_rfl) (by kernel_rfl) h

def t209 (x0 x1 : V) (H0 : Heap) (Q : V → Heap → Prop) : Prop :=
  pBox 26 x0 H0 fun v0 H1 =>
  pFa 3 1 v0 fun v2 =>
  pLoad false 1 v2 H1 fun v3 =>
  pCall Try.prog 99 [v3, x1] H1 fun v4 H5 =>
  pBin EK.other BinOp.lss v4 (V.int .i64 0) H5 fun v6 =>
  cIf v6
    (pWk (List.length H0) [(V.int .i64 (-1))] H5 fun xs7 H8 => (Q (nthV xs7 0) H8))
    (pWk (List.length H0) [v4] H5 fun xs9 H10 => (Q (nthV xs9 0) H10))
def h209 : Nat → Option (List Nat)
  | _ => none
theorem c209 {x0 x1 : V} {H0 : Heap} {Q : V → Heap → Prop} (h : t209 x0 x1 H0 Q) : Ct Try.prog 209 [x0, x1] H0 Q :=
  Ct_of_text (fn := Try.f209) h209 (by kernel_rfl) (by kernel_rfl) (by kernel_rfl) (by kernel_rfl) h

def t210 (x0 x1 : V) (H0 : Heap) (Q : V → Heap → Prop) : Prop :=
  ∃ (I0 : List V → Heap → Prop) (m1 : List V → Heap → Nat), (pWk (List.length H0) [x1, (V.int .i64 0)] H0 fun xs4 H5 => (I0 xs4 H5)) ∧
    ∀ xs2 H3, I0 xs2 H3 →
    pLn false x0 fun v6 =>
    pBin EK.other BinOp.lss (xs2.getD 1 V.undef) v6 H3 fun v7 =>
    cIf v7
      (pIndexAddr 5 x0 (xs2.getD 1 V.undef) H3 fun v8 =>
      pFa 0 1 v8 fun v9 =>
      pLoad false 1 v9 H3 fun v10 =>
      pBin EK.other BinOp.neq v10 (xs2.getD 0 V.undef) H3 fun v11 =>
      cIf v11
        (pWk (List.length H0) [(V.int .i64 (-1))] H3 fun xs12 H13 => (Q (nthV xs12 0) H13))
        (pBin EK.other BinOp.add (xs2.getD 0 V.undef) (V.int .i64 1) H3 fun v14 =>
        pIndexAddr 5 x0 (xs2.getD 1 V.undef) H3 fun v15 =>
        pFa 1 1 v15 fun v16 =>
        pLoad false 1 v16 H3 fun v17 =>
        pBin EK.other BinOp.neq v17 v14 H3 fun v18 =>
        cIf v18
          (pWk (List.length H0) [(V.int .i64 (-1))] H3 fun xs19 H20 => (Q (nthV xs19 0) H20))
          (pBin EK.other BinOp.add v14 (V.int .i64 1) H3 fun v21 =>
          pIndexAddr 5 x0 (xs2.getD 1 V.undef) H3 fun v22 =>
          pFa 2 1 v22 fun v23 =>
          pLoad false 1 v23 H3 fun v24 =>
          pBin EK.other BinOp.neq v24 v21 H3 fun v25 =>
          cIf v25
            (pWk (List.length H0) [(V.int .i64 (-1))] H3 fun xs26 H27 => (Q (nthV xs26 0) H27))
            (pBin EK.other BinOp.add v21 (V.int .i64 1) H3 fun v28 =>
            pIndexAddr 5 x0 (xs2.getD 1 V.undef) H3 fun v29 =>
            pFa 3 1 v29 fun v30 =>
            pLoad false 1 v30 H3 fun v31 =>
            pBin EK.other BinOp.neq v31 v28 H3 fun v32 =>
            cIf v32
              (pWk (List.length H0) [(V.int .i64 (-1))] H3 fun xs33 H34 => (Q (nthV xs33 0) H34))
              (pBin EK.other BinOp.add v28 (V.int .i64 1) H3 fun v35 =>
              pIndexAddr 5 x0 (xs2.getD 1 V.undef) H3 fun v36 =>
              pFa 4 1 v36 fun v37 =>
              pLoad false 1 v37 H3 fun v38 =>
              pBin EK.other BinOp.neq v38 v35 H3 fun v39 =>
              cIf v39
                (pWk (List.length H0) [(V.int .i64 (-1))] H3 fun xs40 H41 => (Q (nthV xs40 0) H41))
                (pBin EK.other BinOp.add v35 (V.int .i64 1) H3 fun v42 =>
                pBin EK.other BinOp.add (xs2.getD 1 V.undef) (V.int .i64 1) H3 fun v43 =>
                pWk (List.length H0) [v42, v43] H3 fun xs44 H45 => (I0 xs44 H45) ∧ m1 xs44 H45 < m1 xs2 H3))))))
      (pWk (List.length H0) [(xs2.getD 0 V.undef)] H3 fun xs46 H47 => (Q (nthV xs46 0) H47))
def h210 : Nat → Option (List Nat)
  | 2 => some [1, 5]
  | _ => none
theorem c210 {x0 x1 : V} {H0 : Heap} {Q : V → Heap → Prop} (h : t210 x0 x1 H0 Q) : Ct Try.prog 210 [x0, x1] H0 Q :=
  Ct_of_text (fn := Try.f210) h210 (by kernel_rfl) (by kernel_rfl) (by kernel_rfl) (by kernel_rfl) h

def t92 (x0 x1 : V) (H0 : Heap) (Q : V → Heap → Prop) : Prop :=
  pBox 29 x0 H0 fun v0 H1 =>
  pFa 0 1 v0 fun v2 =>
  pLoad false 1 v2 H1 fun v3 =>
  pCall Try.prog 208 [v3, x1] H1 fun v4 H5 =>
  pBin EK.other BinOp.lss v4 (V.int .i64 0) H5 fun v6 =>
  cIf v6
    (pWk (List.length H0) [(V.int .i64 (-1))] H5 fun xs7 H8 => (Q (nthV xs7 0) H8))
    (pFa 1 5 v0 fun v9 =>
    pLoad true 5 v9 H5 fun v10 =>
    pCall Try.prog 209 [v10, v4] H5 fun v11 H12 =>
    pBin EK.other BinOp.lss v11 (V.int .i64 0) H12 fun v13 =>
    cIf v13
      (pWk (List.length H0) [(V.int .i64 (-1))] H12 fun xs14 H15 => (Q (nthV xs14 0) H15))
      (pFa 6 1 v0 fun v16 =>
      pLoad false 1 v16 H12 fun v17 =>
      pCall Try.prog 210 [v17, v11] H12 fun v18 H19 =>
      pBin EK.other BinOp.lss v18 (V.int .i64 0) H19 fun v20 =>
      cIf v20
        (pWk (List.length H0) [(V.int .i64 (-1))] H19 fun xs21 H22 => (Q (nthV xs21 0) H22))
        (pFa 7 1 v0 fun v23 =>
        pLoad false 1 v23 H19 fun v24 =>
        pCall Try.prog 99 [v24, v18] H19 fun v25 H26 =>
        pBin EK.other BinOp.lss v25 (V.int .i64 0) H26 fun v27 =>
        cIf v27
          (pWk (List.length H0) [(V.int .i64 (-1))] H26 fun xs28 H29 => (Q (nthV xs28 0) H29))
          (pFa 8 1 v0 fun v30 =>
          pLoad false 1 v30 H26 fun v31 =>
          pCall Try.prog 99 [v31, v25] H26 fun v32 H33 =>
          pBin EK.other BinOp.lss v32 (V.int .i64 0) H33 fun v34 =>
          cIf v34
            (pWk (List.length H0) [(V.int .i64 (-1))] H33 fun xs35 H36 => (Q (nthV xs35 0) H36))
            (pWk (List.length H0) [v32] H33 fun xs37 H38 => (Q (nthV xs37 0) H38))))))
def h92 : Nat → Option (List Nat)
  | _ => none
theorem c92 {x0 x1 : V} {H0 : Heap} {Q : V → Heap → Prop} (h : t92 x0 x1 H0 Q) : Ct Try.prog 92 [x0, x1] H0 Q :=
  Ct_of_text (fn := Try.f92) h92 (by kernel_rfl) (by kernel_rfl) (by kernel_rfl) (by kernel_rfl) h

def t194 (x0 : V) (H0 : Heap) (Q : V → Heap → Prop) : Prop :=
  pBox 40 x0 H0 fun v0 H1 =>
  pFa 4 1 v0 fun v2 =>
  pLoad false 1 v2 H1 fun v3 =>
  pBin EK.other BinOp.eql v3 (V.int .i64 0) H1 fun v4 =>
  pWk (List.length H0) [v4] H1 fun xs5 H6 => (Q (nthV xs5 0) H6)
def h194 : Nat → Option (List Nat)
  | _ => none
theorem c194 {x0 : V} {H0 : Heap} {Q : V → Heap → Prop} (h : t194 x0 H0 Q) : Ct Try.prog 194 [x0] H0 Q :=
  Ct_of_text (fn := Try.f194) h194 (by kernel_rfl) (by kernel_rfl) (by kernel_rfl) (by kernel_rfl) h

def t90 (x0 x1 x2 : V) (H0 : Heap) (Q : V → Heap → Prop) : Prop :=
  pBox 29 x0 H0 fun v0 H1 =>
  pBox 29 (V.agg [(V.sl false 3 []), (V.int .i64 0), (V.int .i64 0), (V.int .i64 0), (V.sl false 1 []), (V.bool false), (V.sl false 5 []), (V.sl false 1 []), (V.sl false 1 [])]) H1 fun v2 H3 =>
  pLoad true 9 v0 H3 fun v4 =>
  pCall Try.prog 201 [v4] H3 fun v5 H6 =>
  pNot v5 fun v7 =>
  cIf v7
    (pBuild [(V.sl false 3 []), (V.int .i64 0), (V.int .i64 0), (V.int .i64 0), (V.sl false 1 []), (V.bool false), (V.sl false 5 []), (V.sl false 1 []), (V.sl false 1 [])] [] fun v8 =>
    pSt 9 v2 v8 H6 fun H10 =>
    pLoad true 9 v2 H10 fun v12 =>
    pWk (List.length H0) [(V.tup [v12, (V.bool false)])] H10 fun xs13 H14 => (Q (nthV xs13 0) H14))
    (pFa 0 1 v0 fun v15 =>
    pLoad false 1 v15 H6 fun v16 =>
    pLn false v16 fun v17 =>
    pBin EK.other BinOp.sub v17 (V.int .i64 1) H6 fun v18 =>
    pCall Try.prog 202 [x1, (V.int .i64 0), v18] H6 fun v19 H20 =>
    pNot v19 fun v21 =>
    cIf v21
      (pBuild [(V.sl false 3 []), (V.int .i64 0), (V.int .i64 0), (V.int .i64 0), (V.sl false 1 []), (V.bool false), (V.sl false 5 []), (V.sl false 1 []), (V.sl false 1 [])] [] fun v22 =>
      pSt 9 v2 v22 H20 fun H24 =>
      pLoad true 9 v2 H24 fun v26 =>
      pWk (List.length H0) [(V.tup [v26, (V.bool false)])] H24 fun xs27 H28 => (Q (nthV xs27 0) H28))
      (pCall Try.prog 202 [x2, (V.int .i64 1), (V.int .i64 2)] H20 fun v29 H30 =>
      pNot v29 fun v31 =>
      cIf v31
        (pBuild [(V.sl false 3 []), (V.int .i64 0), (V.int .i64 0), (V.int .i64 0), (V.sl false 1 []), (V.bool false), (V.sl false 5 []), (V.sl false 1 []), (V.sl false 1 [])] [] fun v32 =>
        pSt 9 v2 v32 H30 fun H34 =>
        pLoad true 9 v2 H34 fun v36 =>
        pWk (List.length H0) [(V.tup [v36, (V.bool false)])] H34 fun xs37 H38 => (Q (nthV xs37 0) H38))
        (pLoad true 9 v0 H30 fun v39 =>
        pCall Try.prog 203 [v39] H30 fun v40 H41 =>
        pBox 29 (V.agg [(V.sl false 3 []), (V.int .i64 0), (V.int .i64 0), (V.int .i64 0), (V.sl false 1 []), (V.bool false), (V.sl false 5 []), (V.sl false 1 []), (V.sl false 1 [])]) H41 fun v42 H43 =>
        pSt 9 v42 v40 H43 fun H45 =>
        pFa 6 1 v42 fun v47 =>
        pLoad false 1 v47 H45 fun v48 =>
        pLn false v48 fun v49 =>
        ∃ (I50 : List V → Heap → Prop) (m51 : List V → Heap → Nat), (pWk (List.length H45) [(V.int .i64 0)] H45 fun xs54 H55 => (I50 xs54 H55)) ∧
          ∀ xs52 H53, I50 xs52 H53 →
          pBin EK.other BinOp.lss (xs52.getD 0 V.undef) v49 H53 fun v56 =>
          cIf v56
            (pIndexAddr 5 v48 (xs52.getD 0 V.undef) H53 fun v57 =>
            pLoad true 5 v57 H53 fun v58 =>
            pBox 40 (V.agg [(V.int .i64 0), (V.int .i64 0), (V.int .i64 0), (V.int .i64 0), (V.int .i64 0)]) H53 fun v59 H60 =>
            pSt 5 v59 v58 H60 fun H62 =>
            pFa 0 1 v59 fun v64 =>
            pLoad false 1 v64 H62 fun v65 =>
            pBin EK.other BinOp.neq v65 x1 H62 fun v66 =>
            cIf v66
              (pFa 1 1 v59 fun v67 =>
              pLoad false 1 v67 H62 fun v68 =>
              pBin EK.other BinOp.neq v68 x1 H62 fun v69 =>
              cIf v69
                (pBin EK.other BinOp.add (xs52.getD 0 V.undef) (V.int .i64 1) H62 fun v70 =>
                pWk (List.length H45) [v70] H62 fun xs71 H72 => (I50 xs71 H72) ∧ m51 xs71 H72 < m51 xs52 H53)
                (pBin EK.other BinOp.eql x2 (V.int .i64 1) H62 fun v73 =>
                cIf v73
                  (pFa 6 1 v42 fun v74 =>
                  pLoad false 1 v74 H62 fun v75 =>
                  pFa 0 1 v59 fun v76 =>
                  pLoad false 1 v76 H62 fun v77 =>
                  pFa 1 1 v59 fun v78 =>
                  pLoad false 1 v78 H62 fun v79 =>
                  pBuild [(V.int .i64 0), (V.int .i64 0), (V.int .i64 0), (V.int .i64 0), (V.int .i64 0)] [(.mk 0 (.mk 1 v77)), (.mk 1 (.mk 1 v79)), (.mk 4 (.mk 1 (V.int .i64 4)))] fun v80 =>
                  pIndexAddr 5 v75 (xs52.getD 0 V.undef) H62 fun v81 =>
                  pSt 5 v81 v80 H62 fun H83 =>
                  pBin EK.other BinOp.add (xs52.getD 0 V.undef) (V.int .i64 1) H83 fun v85 =>
                  pWk (List.length H45) [v85] H83 fun xs86 H87 => (I50 xs86 H87) ∧ m51 xs86 H87 < m51 xs52 H53)
                  (pLoad true 5 v59 H62 fun v88 =>
                  pCall Try.prog 194 [v88] H62 fun v89 H90 =>
                  cIf v89
                    (pFa 6 1 v42 fun v91 =>
                    pLoad false 1 v91 H90 fun v92 =>
                    pLoad true 5 v59 H90 fun v93 =>
                    pFa 0 1 v59 fun v94 =>
                    pLoad false 1 v94 H90 fun v95 =>
                    pFa 1 1 v59 fun v96 =>
                    pLoad false 1 v96 H90 fun v97 =>
                    pBin EK.other BinOp.add v95 v97 H90 fun v98 =>
                    pBin EK.other BinOp.sub v98 x1 H90 fun v99 =>
                    pCall Try.prog 204 [v93, v99] H90 fun v100 H101 =>
                    (keepV v91 H90 H101 ∧ True) ∧ pIndexAddr 5 v92 (xs52.getD 0 V.undef) H101 fun v102 =>
                    pSt 5 v102 v100 H101 fun H104 =>
                    True ∧ pBin EK.other BinOp.add (xs52.getD 0 V.undef) (V.int .i64 1) H104 fun v106 =>
                    pWk (List.length H45) [v106] H104 fun xs107 H108 => (I50 xs107 H108) ∧ m51 xs107 H108 < m51 xs52 H53)
                    (pBin EK.other BinOp.add (xs52.getD 0 V.undef) (V.int .i64 1) H90 fun v109 =>
                    pWk (List.length H45) [v109] H90 fun xs110 H111 => (I50 xs110 H111) ∧ m51 xs110 H111 < m51 xs52 H53))))
              (pBin EK.other BinOp.eql x2 (V.int .i64 1) H62 fun v112 =>
              cIf v112
                (pFa 6 1 v42 fun v113 =>
                pLoad false 1 v113 H62 fun v114 =>
                pFa 0 1 v59 fun v115 =>
                pLoad false 1 v115 H62 fun v116 =>
                pFa 1 1 v59 fun v117 =>
                pLoad false 1 v117 H62 fun v118 =>
                pBuild [(V.int .i64 0), (V.int .i64 0), (V.int .i64 0), (V.int .i64 0), (V.int .i64 0)] [(.mk 0 (.mk 1 v116)), (.mk 1 (.mk 1 v118)), (.mk 4 (.mk 1 (V.int .i64 4)))] fun v119 =>
                pIndexAddr 5 v114 (xs52.getD 0 V.undef) H62 fun v120 =>
                pSt 5 v120 v119 H62 fun H122 =>
                pBin EK.other BinOp.add (xs52.getD 0 V.undef) (V.int .i64 1) H122 fun v124 =>
                pWk (List.length H45) [v124] H122 fun xs125 H126 => (I50 xs125 H126) ∧ m51 xs125 H126 < m51 xs52 H53)
                (pLoad true 5 v59 H62 fun v127 =>
                pCall Try.prog 194 [v127] H62 fun v128 H129 =>
                cIf v128
                  (pFa 6 1 v42 fun v130 =>
                  pLoad false 1 v130 H129 fun v131 =>
                  pLoad true 5 v59 H129 fun v132 =>
                  pFa 0 1 v59 fun v133 =>
                  pLoad false 1 v133 H129 fun v134 =>
                  pFa 1 1 v59 fun v135 =>
                  pLoad false 1 v135 H129 fun v136 =>
                  pBin EK.other BinOp.add v134 v136 H129 fun v137 =>
                  pBin EK.other BinOp.sub v137 x1 H129 fun v138 =>
                  pCall Try.prog 204 [v132, v138] H129 fun v139 H140 =>
                  (keepV v130 H129 H140 ∧ True) ∧ pIndexAddr 5 v131 (xs52.getD 0 V.undef) H140 fun v141 =>
                  pSt 5 v141 v139 H140 fun H143 =>
                  True ∧ pBin EK.other BinOp.add (xs52.getD 0 V.undef) (V.int .i64 1) H143 fun v145 =>
                  pWk (List.length H45) [v145] H143 fun xs146 H147 => (I50 xs146 H147) ∧ m51 xs146 H147 < m51 xs52 H53)
                  (pBin EK.other BinOp.add (xs52.getD 0 V.undef) (V.int .i64 1) H129 fun v148 =>
                  pWk (List.length H45) [v148] H129 fun xs149 H150 => (I50 xs149 H150) ∧ m51 xs149 H150 < m51 xs52 H53))))
            (pLoad true 9 v42 H53 fun v151 =>
            pSt 9 v2 v151 H53 fun H153 =>
            pLoad true 9 v2 H153 fun v155 =>
            pWk (List.length H0) [(V.tup [v155, (V.bool true)])] H153 fun xs156 H157 => (Q (nthV xs156 0) H157)))))
def h90 : Nat → Option (List Nat)
  | 5 => some [34]
  | _ => none
theorem c90 {x0 x1 x2 : V} {H0 : Heap} {Q : V → Heap → Prop} (h : t90 x0 x1 x2 H0 Q) : Ct Try.prog 90 [x0, x1, x2] H0 Q :=
  Ct_of_text (fn := Try.f90) h90 (by kernel_rfl) (by kernel_rfl) (by kernel_rfl) (by kernel_rfl) h

def t98 (x0 x1 x2 : V) (H0 : Heap) (Q : V → Heap → Prop) : Prop :=
  pBox 29 x0 H0 fun v0 H1 =>
  pLoad true 9 v0 H1 fun v2 =>
  pCall Try.prog 90 [v2, x1, x2] H1 fun v3 H4 =>
  pTup v3 0 fun v5 =>
  pTup v3 1 fun v6 =>
  pBox 29 (V.agg [(V.sl false 3 []), (V.int .i64 0), (V.int .i64 0), (V.int .i64 0), (V.sl false 1 []), (V.bool false), (V.sl false 5 []), (V.sl false 1 []), (V.sl false 1 [])]) H4 fun v7 H8 =>
  pSt 9 v7 v5 H8 fun H10 =>
  pNot v6 fun v12 =>
  cIf v12
    (pWk (List.length H0) [(V.sl false 1 [])] H10 fun xs13 H14 => (Q (nthV xs13 0) H14))
    (pFa 1 5 v0 fun v15 =>
    pLoad true 5 v15 H10 fun v16 =>
    pFa 0 1 v0 fun v17 =>
    pLoad false 1 v17 H10 fun v18 =>
    pLn false v18 fun v19 =>
    pFa 6 1 v0 fun v20 =>
    pLoad false 1 v20 H10 fun v21 =>
    pCall Try.prog 213 [v16, v19, v21, (V.sl false 1 []), (V.bool true)] H10 fun v22 H23 =>
    pFa 1 5 v7 fun v24 =>
    pLoad true 5 v24 H23 fun v25 =>
    pFa 0 1 v7 fun v26 =>
    pLoad false 1 v26 H23 fun v27 =>
    pLn false v27 fun v28 =>
    pFa 6 1 v7 fun v29 =>
    pLoad false 1 v29 H23 fun v30 =>
    pCall Try.prog 213 [v25, v28, v30, (V.sl false 1 []), (V.bool true)] H23 fun v31 H32 =>
    pBs 3 1 (V.int .i64 0) 0 [] [] H32 fun v33 H34 =>
    pLn false v22 fun v35 =>
    ∃ (I36 : List V → Heap → Prop) (m37 : List V → Heap → Nat), (pWk (List.length H34) [v33, (V.int .i64 0)] H34 fun xs40 H41 => (I36 xs40 H41)) ∧
      ∀ xs38 H39, I36 xs38 H39 →
      pBin EK.other BinOp.lss (xs38.getD 1 V.undef) v35 H39 fun v42 =>
      cIf v42
        (pIndexAddr 7 v22 (xs38.getD 1 V.undef) H39 fun v43 =>
        pLoad true 7 v43 H39 fun v44 =>
        pBox 158 (V.agg [(V.int .i64 0), (V.int .i64 0), (V.int .i64 0), (V.int .i64 0), (V.int .i64 0), (V.int .i64 0), (V.int .i64 0)]) H39 fun v45 H46 =>
        pSt 7 v45 v44 H46 fun H48 =>
        pFa 6 1 v45 fun v50 =>
        pLoad false 1 v50 H48 fun v51 =>
        pIndexAddr 7 v31 (xs38.getD 1 V.undef) H48 fun v52 =>
        pFa 6 1 v52 fun v53 =>
        pLoad false 1 v53 H48 fun v54 =>
        pBin EK.other BinOp.sub v51 v54 H48 fun v55 =>
        pBs 3 1 (V.int .i64 0) 1 [0] [v55] H48 fun v56 H57 =>
        True ∧ pAp 24 3 1 8 (V.int .i64 0) (xs38.getD 0 V.undef) v56 H57 fun v58 H59 =>
        True ∧ pBin EK.other BinOp.add (xs38.getD 1 V.undef) (V.int .i64 1) H59 fun v60 =>
        pWk (List.length H34) [v58, v60] H59 fun xs61 H62 => (I36 xs61 H62) ∧ m37 xs61 H62 < m37 xs38 H39)
        (pWk (List.length H0) [(xs38.getD 0 V.undef)] H39 fun xs63 H64 => (Q (nthV xs63 0) H64)))
def h98 : Nat → Option (List Nat)
  | 8 => some [11, 42]
  | _ => none
theorem c98 {x0 x1 x2 : V} {H0 : Heap} {Q : V → Heap → Prop} (h : t98 x0 x1 x2 H0 Q) : Ct Try.prog 98 [x0, x1, x2] H0 Q :=
  Ct_of_text (fn := Try.f98) h98 (by kernel_rfl) (by kernel_rfl) (by kernel_rfl) (by kernel_rfl) h

def t213 (x0 x1 x2 x3 x4 : V) (H0 : Heap) (Q : V → Heap → Prop) : Prop :=
  pBox 26 x0 H0 fun v0 H1 =>
  pMk 158 7 56 (V.agg [(V.int .i64 0), (V.int .i64 0), (V.int .i64 0), (V.int .i64 0), (V.int .i64 0), (V.int .i64 0), (V.int .i64 0)]) x1 x1 H1 fun v2 H3 =>
  pLn false x2 fun v4 =>
  ∃ (I5 : List V → Heap → Prop) (m6 : List V → Heap → Nat), (pWk (List.length H3) [(V.int .i64 0)] H3 fun xs9 H10 => (I5 xs9 H10)) ∧
    ∀ xs7 H8, I5 xs7 H8 →
    pBin EK.other BinOp.lss (xs7.getD 0 V.undef) v4 H8 fun v11 =>
    cIf v11
      (pIndexAddr 5 x2 (xs7.getD 0 V.undef) H8 fun v12 =>
      pLoad true 5 v12 H8 fun v13 =>
      pBox 40 (V.agg [(V.int .i64 0), (V.int .i64 0), (V.int .i64 0), (V.int .i64 0), (V.int .i64 0)]) H8 fun v14 H15 =>
      pSt 5 v14 v13 H15 fun H17 =>
      cIf x4
        (pLoad true 5 v0 H17 fun v19 =>
        pLoad true 5 v14 H17 fun v20 =>
        pCall Try.prog 267 [v19, v2, v20] H17 fun _v21 H22 =>
        pBin EK.other BinOp.add (xs7.getD 0 V.undef) (V.int .i64 1) H22 fun v23 =>
        pWk (List.length H3) [v23] H22 fun xs24 H25 => (I5 xs24 H25) ∧ m6 xs24 H25 < m6 xs7 H8)
        (pFa 0 1 v14 fun v26 =>
        pLoad false 1 v26 H17 fun v27 =>
        pCall Try.prog 217 [x3, v27] H17 fun v28 H29 =>
        cIf v28
          (pFa 1 1 v14 fun v30 =>
          pLoad false 1 v30 H29 fun v31 =>
          pCall Try.prog 217 [x3, v31] H29 fun v32 H33 =>
          cIf v32
            (pLoad true 5 v0 H33 fun v34 =>
            pLoad true 5 v14 H33 fun v35 =>
            pCall Try.prog 267 [v34, v2, v35] H33 fun _v36 H37 =>
            pBin EK.other BinOp.add (xs7.getD 0 V.undef) (V.int .i64 1) H37 fun v38 =>
            pWk (List.length H3) [v38] H37 fun xs39 H40 => (I5 xs39 H40) ∧ m6 xs39 H40 < m6 xs7 H8)
            (pBin EK.other BinOp.add (xs7.getD 0 V.undef) (V.int .i64 1) H33 fun v41 =>
            pWk (List.length H3) [v41] H33 fun xs42 H43 => (I5 xs42 H43) ∧ m6 xs42 H43 < m6 xs7 H8))
          (pBin EK.other BinOp.add (xs7.getD 0 V.undef) (V.int .i64 1) H29 fun v44 =>
          pWk (List.length H3) [v44] H29 fun xs45 H46 => (I5 xs45 H46) ∧ m6 xs45 H46 < m6 xs7 H8)))
      (pWk (List.length H0) [v2] H8 fun xs47 H48 => (Q (nthV xs47 0) H48))
def h213 : Nat → Option (List Nat)
  | 3 => some [18]
  | _ => none
theorem c213 {x0 x1 x2 x3 x4 : V} {H0 : Heap} {Q : V → Heap → Prop} (h : t213 x0 x1 x2 x3 x4 H0 Q) : Ct Try.prog 213 [x0, x1, x2, x3, x4] H0 Q :=
  Ct_of_text (fn := Try.f213) h213 (by kernel_rfl) (by kernel_rfl) (by kernel_rfl) (by kernel_rfl) h

def t267 (x0 x1 x2 : V) (H0 : Heap) (Q : V → Heap → Prop) : Prop :=
  pBox 26 x0 H0 fun v0 H1 =>
  pBox 40 x2 H1 fun v2 H3 =>
  pLoad true 5 v2 H3 fun v4 =>
  pCall Try.prog 294 [v4] H3 fun v5 H6 =>
  pTup v5 0 fun v7 =>
  pTup v5 1 fun v8 =>
  pTup v5 2 fun v9 =>
  pNot v9 fun v10 =>
  cIf v10
    (pWk (List.length H0) [(V.tup [])] H6 fun xs11 H12 => (Q (nthV xs11 0) H12))
    (pBuild [(V.int .i64 0), (V.int .i64 0), (V.int .i64 0), (V.int .i64 0), (V.int .i64 0), (V.int .i64 0), (V.int .i64 0)] [(.mk 0 (.mk 1 (V.int .i64 1))), (.mk 4 (.mk 1 v7)), (.mk 5 (.mk 1 v8))] fun v13 =>
    pBox 158 (V.agg [(V.int .i64 0), (V.int .i64 0), (V.int .i64 0), (V.int .i64 0), (V.int .i64 0), (V.int .i64 0), (V.int .i64 0)]) H6 fun v14 H15 =>
    pSt 7 v14 v13 H15 fun H17 =>
    pBuild [(V.int .i64 0), (V.int .i64 0), (V.int .i64 0), (V.int .i64 0), (V.int .i64 0), (V.int .i64 0), (V.int .i64 0)] [(.mk 0 (.mk 1 (V.int .i64 1))), (.mk 4 (.mk 1 v8)), (.mk 5 (.mk 1 v7))] fun v19 =>
    pBox 158 (V.agg [(V.int .i64 0), (V.int .i64 0), (V.int .i64 0), (V.int .i64 0), (V.int .i64 0), (V.int .i64 0), (V.int .i64 0)]) H17 fun v20 H21 =>
    pSt 7 v20 v19 H21 fun H23 =>
    pLoad true 5 v2 H23 fun v25 =>
    pCall Try.prog 295 [v25] H23 fun v26 H27 =>
    pBin EK.other BinOp.eql v26 (V.int .i64 1) H27 fun v28 =>
    cIf v28
      (pFa 1 1 v14 fun v29 =>
      pSt 1 v29 (V.int .i64 1) H27 fun H31 =>
      pFa 3 1 v20 fun v33 =>
      pSt 1 v33 (V.int .i64 1) H31 fun H35 =>
      pFa 0 1 v0 fun v37 =>
      pLoad false 1 v37 H35 fun v38 =>
      pFa 6 1 v14 fun v39 =>
      pSt 1 v39 v38 H35 fun H41 =>
      pFa 2 1 v0 fun v43 =>
      pLoad false 1 v43 H41 fun v44 =>
      pFa 6 1 v20 fun v45 =>
      pSt 1 v45 v44 H41 fun H47 =>
      pFa 0 1 v2 fun v49 =>
      pLoad false 1 v49 H47 fun v50 =>
      pFa 0 1 v2 fun v51 =>
      pLoad false 1 v51 H47 fun v52 =>
      pIndexAddr 7 x1 v52 H47 fun v53 =>
      pLoad true 7 v53 H47 fun v54 =>
      pLoad true 7 v14 H47 fun v55 =>
      pCall Try.prog 296 [v54, v55] H47 fun v56 H57 =>
      (keepV v49 H47 H57 ∧ True) ∧ pIndexAddr 7 x1 v50 H57 fun v58 =>
      pSt 7 v58 v56 H57 fun H60 =>
      True ∧ pFa 1 1 v2 fun v62 =>
      pLoad false 1 v62 H60 fun v63 =>
      pFa 1 1 v2 fun v64 =>
      pLoad false 1 v64 H60 fun v65 =>
      pIndexAddr 7 x1 v65 H60 fun v66 =>
      pLoad true 7 v66 H60 fun v67 =>
      pLoad true 7 v20 H60 fun v68 =>
      pCall Try.prog 296 [v67, v68] H60 fun v69 H70 =>
      (keepV v62 H60 H70 ∧ True) ∧ pIndexAddr 7 x1 v63 H70 fun v71 =>
      pSt 7 v71 v69 H70 fun H73 =>
      True ∧ pWk (List.length H0) [(V.tup [])] H73 fun xs75 H76 => (Q (nthV xs75 0) H76))
      (pBin EK.other BinOp.eql v26 (V.int .i64 2) H27 fun v77 =>
      cIf v77
        (pFa 2 1 v14 fun v78 =>
        pSt 1 v78 (V.int .i64 1) H27 fun H80 =>
        pFa 2 1 v20 fun v82 =>
        pSt 1 v82 (V.int .i64 1) H80 fun H84 =>
        pFa 1 1 v0 fun v86 =>
        pLoad false 1 v86 H84 fun v87 =>
        pFa 6 1 v14 fun v88 =>
        pSt 1 v88 v87 H84 fun H90 =>
        pFa 1 1 v0 fun v92 =>
        pLoad false 1 v92 H90 fun v93 =>
        pFa 6 1 v20 fun v94 =>
        pSt 1 v94 v93 H90 fun H96 =>
        pFa 0 1 v2 fun v98 =>
        pLoad false 1 v98 H96 fun v99 =>
        pFa 0 1 v2 fun v100 =>
        pLoad false 1 v100 H96 fun v101 =>
        pIndexAddr 7 x1 v101 H96 fun v102 =>
        pLoad true 7 v102 H96 fun v103 =>
        pLoad true 7 v14 H96 fun v104 =>
        pCall Try.prog 296 [v103, v104] H96 fun v105 H106 =>
        (keepV v98 H96 H106 ∧ True) ∧ pIndexAddr 7 x1 v99 H106 fun v107 =>
        pSt 7 v107 v105 H106 fun H109 =>
        True ∧ pFa 1 1 v2 fun v111 =>
        pLoad false 1 v111 H109 fun v112 =>
        pFa 1 1 v2 fun v113 =>
        pLoad false 1 v113 H109 fun v114 =>
        pIndexAddr 7 x1 v114 H109 fun v115 =>
        pLoad true 7 v115 H109 fun v116 =>
        pLoad true 7 v20 H109 fun v117 =>
        pCall Try.prog 296 [v116, v117] H109 fun v118 H119 =>
        (keepV v111 H109 H119 ∧ True) ∧ pIndexAddr 7 x1 v112 H119 fun v120 =>
        pSt 7 v120 v118 H119 fun H122 =>
        True ∧ pWk (List.length H0) [(V.tup [])] H122 fun xs124 H125 => (Q (nthV xs124 0) H125))
        (pBin EK.other BinOp.eql v26 (V.int .i64 3) H27 fun v126 =>
        cIf v126
          (pFa 3 1 v14 fun v127 =>
          pSt 1 v127 (V.int .i64 1) H27 fun H129 =>
          pFa 1 1 v20 fun v131 =>
          pSt 1 v131 (V.int .i64 1) H129 fun H133 =>
          pFa 2 1 v0 fun v135 =>
          pLoad false 1 v135 H133 fun v136 =>
          pFa 6 1 v14 fun v137 =>
          pSt 1 v137 v136 H133 fun H139 =>
          pFa 0 1 v0 fun v141 =>
          pLoad false 1 v141 H139 fun v142 =>
          pFa 6 1 v20 fun v143 =>
          pSt 1 v143 v142 H139 fun H145 =>
          pFa 0 1 v2 fun v147 =>
          pLoad false 1 v147 H145 fun v148 =>
          pFa 0 1 v2 fun v149 =>
          pLoad false 1 v149 H145 fun v150 =>
          pIndexAddr 7 x1 v150 H145 fun v151 =>
          pLoad true 7 v151 H145 fun v152 =>
          pLoad true 7 v14 H145 fun v153 =>
          pCall Try.prog 296 [v152, v153] H145 fun v154 H155 =>
          (keepV v147 H145 H155 ∧ True) ∧ pIndexAddr 7 x1 v148 H155 fun v156 =>
          pSt 7 v156 v154 H155 fun H158 =>
          True ∧ pFa 1 1 v2 fun v160 =>
          pLoad false 1 v160 H158 fun v161 =>
          pFa 1 1 v2 fun v162 =>
          pLoad false 1 v162 H158 fun v163 =>
          pIndexAddr 7 x1 v163 H158 fun v164 =>
          pLoad true 7 v164 H158 fun v165 =>
          pLoad true 7 v20 H158 fun v166 =>
          pCall Try.prog 296 [v165, v166] H158 fun v167 H168 =>
          (keepV v160 H158 H168 ∧ True) ∧ pIndexAddr 7 x1 v161 H168 fun v169 =>
          pSt 7 v169 v167 H168 fun H171 =>
          True ∧ pWk (List.length H0) [(V.tup [])] H171 fun xs173 H174 => (Q (nthV xs173 0) H174))
          (pFa 0 1 v2 fun v175 =>
          pLoad false 1 v175 H27 fun v176 =>
          pFa 0 1 v2 fun v177 =>
          pLoad false 1 v177 H27 fun v178 =>
          pIndexAddr 7 x1 v178 H27 fun v179 =>
          pLoad true 7 v179 H27 fun v180 =>
          pLoad true 7 v14 H27 fun v181 =>
          pCall Try.prog 296 [v180, v181] H27 fun v182 H183 =>
          (keepV v175 H27 H183 ∧ True) ∧ pIndexAddr 7 x1 v176 H183 fun v184 =>
          pSt 7 v184 v182 H183 fun H186 =>
          True ∧ pFa 1 1 v2 fun v188 =>
          pLoad false 1 v188 H186 fun v189 =>
          pFa 1 1 v2 fun v190 =>
          pLoad false 1 v190 H186 fun v191 =>
          pIndexAddr 7 x1 v191 H186 fun v192 =>
          pLoad true 7 v192 H186 fun v193 =>
          pLoad true 7 v20 H186 fun v194 =>
          pCall Try.prog 296 [v193, v194] H186 fun v195 H196 =>
          (keepV v188 H186 H196 ∧ True) ∧ pIndexAddr 7 x1 v189 H196 fun v197 =>
          pSt 7 v197 v195 H196 fun H199 =>
          True ∧ pWk (List.length H0) [(V.tup [])] H199 fun xs201 H202 => (Q (nthV xs201 0) H202)))))
def h267 : Nat → Option (List Nat)
  | _ => none
theorem c267 {x0 x1 x2 : V} {H0 : Heap} {Q : V → Heap → Prop} (h : t267 x0 x1 x2 H0 Q) : Ct Try.prog 267 [x0, x1, x2] H0 Q :=
  Ct_of_text (fn := Try.f267) h267 (by kernel_rfl) (by kernel_rfl) (by kernel_rfl) (by kernel_rfl) h

end Go.Sim
