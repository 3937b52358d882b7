/- The texts of the functions that measure, copy, compare and mark protests. -/
import Derived.Test.YtahdgiaddhoaoaaSimC
import Derived.Test.YtahdgiaddhoaoaaProg

set_option maxRecDepth 100000
namespace Go.Sim
open Go.Proofs

def t93 (x0 x1 : V) (H0 : Heap) (Q : V → Heap → Prop) : Prop :=
  pLn false x0 fun v0 =>
  pBin EK.other BinOp.sub x1 v0 H0 fun v1 =>
  pBin EK.other BinOp.lss v1 (V.int .i64 0) H0 fun v2 =>
  cIf v2
    (pWk (List.length H0) [(V.int .i64 (-1))] H0 fun xs3 H4 => (Q (nthV xs3 0) H4))
    (pWk (List.length H0) [v1] H0 fun xs5 H6 => (Q (nthV xs5 0) H6))
def h93 : Nat → Option (List Nat)
  | _ => none
theorem c93 {x0 x1 : V} {H0 : Heap} {Q : V → Heap → Prop} (h : t93 x0 x1 H0 Q) : Ct Try.prog 93 [x0, x1] H0 Q :=
  Ct_of_text (fn := Try.f93) h93 (by kernel_rfl) (by kernel_rfl) (by kernel_rfl) (by kernel_rfl) h

def t95 (x0 : V) (H0 : Heap) (Q : V → Heap → Prop) : Prop :=
  pLn false x0 fun v0 =>
  pMk 90 3 24 (V.agg [(V.int .i64 0), (V.int .i64 0), (V.bool false)]) v0 v0 H0 fun v1 H2 =>
  ∃ (I3 : List V → Heap → Prop) (m4 : List V → Heap → Nat), (pWk (List.length H2) [(V.int .i64 0)] H2 fun xs7 H8 => (I3 xs7 H8)) ∧
    ∀ xs5 H6, I3 xs5 H6 →
    pLn false x0 fun v9 =>
    pBin EK.other BinOp.lss (xs5.getD 0 V.undef) v9 H6 fun v10 =>
    cIf v10
      (pIndexAddr 3 x0 (xs5.getD 0 V.undef) H6 fun v11 =>
      pLoad true 3 v11 H6 fun v12 =>
      pCall Try.prog 59 [v12] H6 fun v13 H14 =>
      pIndexAddr 3 v1 (xs5.getD 0 V.undef) H14 fun v15 =>
      pSt 3 v15 v13 H14 fun H17 =>
      pBin EK.other BinOp.add (xs5.getD 0 V.undef) (V.int .i64 1) H17 fun v19 =>
      pWk (List.length H2) [v19] H17 fun xs20 H21 => (I3 xs20 H21) ∧ m4 xs20 H21 < m4 xs5 H6)
      (pWk (List.length H0) [v1] H6 fun xs22 H23 => (Q (nthV xs22 0) H23))
def h95 : Nat → Option (List Nat)
  | 3 => some [4]
  | _ => none
theorem c95 {x0 : V} {H0 : Heap} {Q : V → Heap → Prop} (h : t95 x0 H0 Q) : Ct Try.prog 95 [x0] H0 Q :=
  Ct_of_text (fn := Try.f95) h95 (by kernel_rfl) (by kernel_rfl) (by kernel_rfl) (by kernel_rfl) h

def t96 (x0 x1 : V) (H0 : Heap) (Q : V → Heap → Prop) : Prop :=
  pLn false x0 fun v0 =>
  pLn false x1 fun v1 =>
  pBin EK.other BinOp.neq v0 v1 H0 fun v2 =>
  cIf v2
    (pWk (List.length H0) [(V.bool false)] H0 fun xs3 H4 => (Q (nthV xs3 0) H4))
    (∃ (I5 : List V → Heap → Prop) (m6 : List V → Heap → Nat), (pWk (List.length H0) [(V.int .i64 0)] H0 fun xs9 H10 => (I5 xs9 H10)) ∧
      ∀ xs7 H8, I5 xs7 H8 →
      pLn false x0 fun v11 =>
      pBin EK.other BinOp.lss (xs7.getD 0 V.undef) v11 H8 fun v12 =>
      cIf v12
        (pIndexAddr 3 x0 (xs7.getD 0 V.undef) H8 fun v13 =>
        pLoad true 3 v13 H8 fun v14 =>
        pIndexAddr 3 x1 (xs7.getD 0 V.undef) H8 fun v15 =>
        pLoad true 3 v15 H8 fun v16 =>
        pCall Try.prog 212 [v14, v16] H8 fun v17 H18 =>
        True ∧ pNot v17 fun v19 =>
        cIf v19
          (pWk (List.length H0) [(V.bool false)] H18 fun xs20 H21 => (Q (nthV xs20 0) H21))
          (pBin EK.other BinOp.add (xs7.getD 0 V.undef) (V.int .i64 1) H18 fun v22 =>
          pWk (List.length H0) [v22] H18 fun xs23 H24 => (I5 xs23 H24) ∧ m6 xs23 H24 < m6 xs7 H8))
        (pWk (List.length H0) [(V.bool true)] H8 fun xs25 H26 => (Q (nthV xs25 0) H26)))
def h96 : Nat → Option (List Nat)
  | 4 => some [5]
  | _ => none
theorem c96 {x0 x1 : V} {H0 : Heap} {Q : V → Heap → Prop} (h : t96 x0 x1 H0 Q) : Ct Try.prog 96 [x0, x1] H0 Q :=
  Ct_of_text (fn := Try.f96) h96 (by kernel_rfl) (by kernel_rfl) (by kernel_rfl) (by kernel_rfl) h

def t97 (x0 x1 : V) (H0 : Heap) (Q : V → Heap → Prop) : Prop :=
  ∃ (I0 : List V → Heap → Prop) (m1 : List V → Heap → Nat), (pWk (List.length H0) [x1, (V.int .i64 0)] H0 fun xs4 H5 => (I0 xs4 H5)) ∧
    ∀ xs2 H3, I0 xs2 H3 →
    pLn false x0 fun v6 =>
    pBin EK.other BinOp.lss (xs2.getD 1 V.undef) v6 H3 fun v7 =>
    cIf v7
      (pIndexAddr 3 x0 (xs2.getD 1 V.undef) H3 fun v8 =>
      pFa 0 1 v8 fun v9 =>
      pSt 1 v9 (xs2.getD 0 V.undef) H3 fun H11 =>
      pBin EK.other BinOp.add (xs2.getD 0 V.undef) (V.int .i64 1) H11 fun v13 =>
      pIndexAddr 3 x0 (xs2.getD 1 V.undef) H11 fun v14 =>
      pFa 1 1 v14 fun v15 =>
      pSt 1 v15 v13 H11 fun H17 =>
      pBin EK.other BinOp.add v13 (V.int .i64 1) H17 fun v19 =>
      pBin EK.other BinOp.rem v19 (V.int .i64 3) H17 fun v20 =>
      pBin EK.other BinOp.eql v20 (V.int .i64 0) H17 fun v21 =>
      pIndexAddr 3 x0 (xs2.getD 1 V.undef) H17 fun v22 =>
      pFa 2 1 v22 fun v23 =>
      pSt 1 v23 v21 H17 fun H25 =>
      pBin EK.other BinOp.add v19 (V.int .i64 1) H25 fun v27 =>
      pBin EK.other BinOp.add (xs2.getD 1 V.undef) (V.int .i64 1) H25 fun v28 =>
      pWk (List.length H0) [v27, v28] H25 fun xs29 H30 => (I0 xs29 H30) ∧ m1 xs29 H30 < m1 xs2 H3)
      (pWk (List.length H0) [(xs2.getD 0 V.undef)] H3 fun xs31 H32 => (Q (nthV xs31 0) H32))
def h97 : Nat → Option (List Nat)
  | 2 => some [1, 5]
  | _ => none
theorem c97 {x0 x1 : V} {H0 : Heap} {Q : V → Heap → Prop} (h : t97 x0 x1 H0 Q) : Ct Try.prog 97 [x0, x1] H0 Q :=
  Ct_of_text (fn := Try.f97) h97 (by kernel_rfl) (by kernel_rfl) (by kernel_rfl) (by kernel_rfl) h

def t212 (x0 x1 : V) (H0 : Heap) (Q : V → Heap → Prop) : Prop :=
  pBox 90 x0 H0 fun v0 H1 =>
  pBox 90 x1 H1 fun v2 H3 =>
  pFa 0 1 v0 fun v4 =>
  pLoad false 1 v4 H3 fun v5 =>
  pFa 0 1 v2 fun v6 =>
  pLoad false 1 v6 H3 fun v7 =>
  pBin EK.other BinOp.neq v5 v7 H3 fun v8 =>
  cIf v8
    (pWk (List.length H0) [(V.bool false)] H3 fun xs9 H10 => (Q (nthV xs9 0) H10))
    (pFa 1 1 v0 fun v11 =>
    pLoad false 1 v11 H3 fun v12 =>
    pFa 1 1 v2 fun v13 =>
    pLoad false 1 v13 H3 fun v14 =>
    pBin EK.other BinOp.neq v12 v14 H3 fun v15 =>
    cIf v15
      (pWk (List.length H0) [(V.bool false)] H3 fun xs16 H17 => (Q (nthV xs16 0) H17))
      (pFa 2 1 v0 fun v18 =>
      pLoad false 1 v18 H3 fun v19 =>
      pFa 2 1 v2 fun v20 =>
      pLoad false 1 v20 H3 fun v21 =>
      pBin EK.bool BinOp.neq v19 v21 H3 fun v22 =>
      cIf v22
        (pWk (List.length H0) [(V.bool false)] H3 fun xs23 H24 => (Q (nthV xs23 0) H24))
        (pWk (List.length H0) [(V.bool true)] H3 fun xs25 H26 => (Q (nthV xs25 0) H26))))
def h212 : Nat → Option (List Nat)
  | _ => none
theorem c212 {x0 x1 : V} {H0 : Heap} {Q : V → Heap → Prop} (h : t212 x0 x1 H0 Q) : Ct Try.prog 212 [x0, x1] H0 Q :=
  Ct_of_text (fn := Try.f212) h212 (by kernel_rfl) (by kernel_rfl) (by kernel_rfl) (by kernel_rfl) h

end Go.Sim
