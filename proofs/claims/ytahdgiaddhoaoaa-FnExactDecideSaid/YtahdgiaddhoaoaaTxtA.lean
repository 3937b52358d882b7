/- The texts of the functions: each proved to be what the evaluator asks of the code. -/
import Derived.Test.YtahdgiaddhoaoaaSimC
import Derived.Test.YtahdgiaddhoaoaaProg

namespace Go.Sim

structure Team where
  name : ByteArray
  club : Int
  seed : Int
structure Game where
  home : Int
  away : Int
  hg : Int
  ag : Int
  st : Int
structure Rules where
  win : Int
  draw : Int
  loss : Int
  lnn : Bool
  ladder : List Int
  again : Bool
structure Row where
  played : Int
  wins : Int
  draws : Int
  losses : Int
  scored : Int
  against : Int
  points : Int
structure Book where
  fnn : Bool
  field : List Team
  rules : Rules
  gnn : Bool
  games : List Game
  pnn : Bool
  fair : List Int
  tnn : Bool
  taken : List Int

abbrev V.ints (nn : Bool) (xs : List Int) : V := .sl nn 1 (xs.map V.i)
/-- The bytes of a code. -/
abbrev V.bytes (nn : Bool) (bs : List Int) : V := .sl nn 1 (bs.map (V.int .u8))
def vTeam (t : Team) : V := .agg [.str t.name, .i t.club, .i t.seed]
def vGame (g : Game) : V := .agg [.i g.home, .i g.away, .i g.hg, .i g.ag, .i g.st]
def vRow (r : Row) : V := .agg [.i r.played, .i r.wins, .i r.draws, .i r.losses, .i r.scored, .i r.against, .i r.points]
def vRules (u : Rules) : V := .agg [.i u.win, .i u.draw, .i u.loss, .ints u.lnn u.ladder, .bool u.again]
abbrev vTeams (nn : Bool) (l : List Team) : V := .sl nn 3 (l.map vTeam)
abbrev vGames (nn : Bool) (l : List Game) : V := .sl nn 5 (l.map vGame)
def vBook (b : Book) : V := .agg [vTeams b.fnn b.field, .i b.rules.win, .i b.rules.draw, .i b.rules.loss, .ints b.rules.lnn b.rules.ladder, .bool b.rules.again,
  vGames b.gnn b.games, .ints b.pnn b.fair, .ints b.tnn b.taken]

end Go.Sim

set_option maxRecDepth 100000
namespace Go.Sim
open Go.Proofs

def t19 (x0 : V) (H0 : Heap) (Q : V → Heap → Prop) : Prop :=
  pBox 29 (V.agg [(V.sl false 3 []), (V.int .i64 0), (V.int .i64 0), (V.int .i64 0), (V.sl false 1 []), (V.bool false), (V.sl false 5 []), (V.sl false 1 []), (V.sl false 1 [])]) H0 fun v0 H1 =>
  pCall Try.prog 113 [x0] H1 fun v2 H3 =>
  pCall Try.prog 115 [v2, (V.int .i64 3)] H3 fun v4 H5 =>
  pBin EK.other BinOp.add (V.int .i64 3) v4 H5 fun v6 =>
  pCall Try.prog 114 [v2, v6, (V.int .i64 3)] H5 fun v7 H8 =>
  pSt 9 v0 v7 H8 fun H10 =>
  pLoad true 9 v0 H10 fun v12 =>
  pWk (List.length H0) [v12] H10 fun xs13 H14 => (Q (nthV xs13 0) H14)
def h19 : Nat → Option (List Nat)
  | _ => none
theorem c19 {x0 : V} {H0 : Heap} {Q : V → Heap → Prop} (h : t19 x0 H0 Q) : Ct Try.prog 19 [x0] H0 Q :=
  Ct_of_text (fn := Try.f19) h19 (by kernel_rfl) (by kernel_rfl) (by kernel_rfl) (by kernel_rfl) h

def t20 (x0 x1 : V) (H0 : Heap) (Q : V → Heap → Prop) : Prop :=
  pCall Try.prog 116 [x0, x1] H0 fun v0 H1 =>
  pCall Try.prog 117 [v0] H1 fun v2 H3 =>
  pBin EK.other BinOp.mul v2 (V.int .i64 256) H3 fun v4 =>
  pCall Try.prog 117 [v0] H3 fun v5 H6 =>
  pBin EK.other BinOp.add v4 v5 H6 fun v7 =>
  pWk (List.length H0) [v7] H6 fun xs8 H9 => (Q (nthV xs8 0) H9)
def h20 : Nat → Option (List Nat)
  | _ => none
theorem c20 {x0 x1 : V} {H0 : Heap} {Q : V → Heap → Prop} (h : t20 x0 x1 H0 Q) : Ct Try.prog 20 [x0, x1] H0 Q :=
  Ct_of_text (fn := Try.f20) h20 (by kernel_rfl) (by kernel_rfl) (by kernel_rfl) (by kernel_rfl) h

def t21 (x0 x1 x2 : V) (H0 : Heap) (Q : V → Heap → Prop) : Prop :=
  pBox 29 x0 H0 fun v0 H1 =>
  pBox 29 (V.agg [(V.sl false 3 []), (V.int .i64 0), (V.int .i64 0), (V.int .i64 0), (V.sl false 1 []), (V.bool false), (V.sl false 5 []), (V.sl false 1 []), (V.sl false 1 [])]) H1 fun v2 H3 =>
  pLoad true 9 v0 H3 fun v4 =>
  pCall Try.prog 22 [v4] H3 fun v5 H6 =>
  pNot v5 fun v7 =>
  cIf v7
    (pBuild [(V.sl false 3 []), (V.int .i64 0), (V.int .i64 0), (V.int .i64 0), (V.sl false 1 []), (V.bool false), (V.sl false 5 []), (V.sl false 1 []), (V.sl false 1 [])] [] fun v8 =>
    pSt 9 v2 v8 H6 fun H10 =>
    pLoad true 9 v2 H10 fun v12 =>
    pWk (List.length H0) [(V.tup [v12, (V.bool false)])] H10 fun xs13 H14 => (Q (nthV xs13 0) H14))
    (pLoad true 9 v0 H6 fun v15 =>
    pCall Try.prog 118 [v15, x1] H6 fun v16 H17 =>
    pNot v16 fun v18 =>
    cIf v18
      (pBuild [(V.sl false 3 []), (V.int .i64 0), (V.int .i64 0), (V.int .i64 0), (V.sl false 1 []), (V.bool false), (V.sl false 5 []), (V.sl false 1 []), (V.sl false 1 [])] [] fun v19 =>
      pSt 9 v2 v19 H17 fun H21 =>
      pLoad true 9 v2 H21 fun v23 =>
      pWk (List.length H0) [(V.tup [v23, (V.bool false)])] H21 fun xs24 H25 => (Q (nthV xs24 0) H25))
      (pCall Try.prog 29 [x2] H17 fun v26 H27 =>
      pBin EK.other BinOp.eql v26 (V.str ({ data := #[] })) H27 fun v28 =>
      cIf v28
        (pBuild [(V.sl false 3 []), (V.int .i64 0), (V.int .i64 0), (V.int .i64 0), (V.sl false 1 []), (V.bool false), (V.sl false 5 []), (V.sl false 1 []), (V.sl false 1 [])] [] fun v29 =>
        pSt 9 v2 v29 H27 fun H31 =>
        pLoad true 9 v2 H31 fun v33 =>
        pWk (List.length H0) [(V.tup [v33, (V.bool false)])] H31 fun xs34 H35 => (Q (nthV xs34 0) H35))
        (pLoad true 9 v0 H27 fun v36 =>
        pCall Try.prog 119 [v36] H27 fun v37 H38 =>
        pBox 29 (V.agg [(V.sl false 3 []), (V.int .i64 0), (V.int .i64 0), (V.int .i64 0), (V.sl false 1 []), (V.bool false), (V.sl false 5 []), (V.sl false 1 []), (V.sl false 1 [])]) H38 fun v39 H40 =>
        pSt 9 v39 v37 H40 fun H42 =>
        pFa 6 1 v39 fun v44 =>
        pLoad false 1 v44 H42 fun v45 =>
        pLn false v45 fun v46 =>
        ∃ (I47 : List V → Heap → Prop) (m48 : List V → Heap → Nat), (pWk (List.length H42) [(V.int .i64 0)] H42 fun xs51 H52 => (I47 xs51 H52)) ∧
          ∀ xs49 H50, I47 xs49 H50 →
          pBin EK.other BinOp.lss (xs49.getD 0 V.undef) v46 H50 fun v53 =>
          cIf v53
            (pIndexAddr 5 v45 (xs49.getD 0 V.undef) H50 fun v54 =>
            pLoad true 5 v54 H50 fun v55 =>
            pBox 40 (V.agg [(V.int .i64 0), (V.int .i64 0), (V.int .i64 0), (V.int .i64 0), (V.int .i64 0)]) H50 fun v56 H57 =>
            pSt 5 v56 v55 H57 fun H59 =>
            pLoad true 5 v56 H59 fun v61 =>
            pCall Try.prog 120 [v61, x1] H59 fun v62 H63 =>
            pNot v62 fun v64 =>
            cIf v64
              (pBin EK.other BinOp.add (xs49.getD 0 V.undef) (V.int .i64 1) H63 fun v65 =>
              pWk (List.length H42) [v65] H63 fun xs66 H67 => (I47 xs66 H67) ∧ m48 xs66 H67 < m48 xs49 H50)
              (pBin EK.other BinOp.eql x2 (V.int .i64 1) H63 fun v68 =>
              cIf v68
                (pFa 6 1 v39 fun v69 =>
                pLoad false 1 v69 H63 fun v70 =>
                pFa 0 1 v56 fun v71 =>
                pLoad false 1 v71 H63 fun v72 =>
                pFa 1 1 v56 fun v73 =>
                pLoad false 1 v73 H63 fun v74 =>
                pBuild [(V.int .i64 0), (V.int .i64 0), (V.int .i64 0), (V.int .i64 0), (V.int .i64 0)] [(.mk 0 (.mk 1 v72)), (.mk 1 (.mk 1 v74)), (.mk 4 (.mk 1 (V.int .i64 4)))] fun v75 =>
                pIndexAddr 5 v70 (xs49.getD 0 V.undef) H63 fun v76 =>
                pSt 5 v76 v75 H63 fun H78 =>
                pBin EK.other BinOp.add (xs49.getD 0 V.undef) (V.int .i64 1) H78 fun v80 =>
                pWk (List.length H42) [v80] H78 fun xs81 H82 => (I47 xs81 H82) ∧ m48 xs81 H82 < m48 xs49 H50)
                (pLoad true 5 v56 H63 fun v83 =>
                pCall Try.prog 27 [v83] H63 fun v84 H85 =>
                cIf v84
                  (pFa 6 1 v39 fun v86 =>
                  pLoad false 1 v86 H85 fun v87 =>
                  pLoad true 5 v56 H85 fun v88 =>
                  pFa 0 1 v56 fun v89 =>
                  pLoad false 1 v89 H85 fun v90 =>
                  pFa 1 1 v56 fun v91 =>
                  pLoad false 1 v91 H85 fun v92 =>
                  pBin EK.other BinOp.add v90 v92 H85 fun v93 =>
                  pBin EK.other BinOp.sub v93 x1 H85 fun v94 =>
                  pCall Try.prog 121 [v88, v94] H85 fun v95 H96 =>
                  (keepV v86 H85 H96 ∧ True) ∧ pIndexAddr 5 v87 (xs49.getD 0 V.undef) H96 fun v97 =>
                  pSt 5 v97 v95 H96 fun H99 =>
                  True ∧ pBin EK.other BinOp.add (xs49.getD 0 V.undef) (V.int .i64 1) H99 fun v101 =>
                  pWk (List.length H42) [v101] H99 fun xs102 H103 => (I47 xs102 H103) ∧ m48 xs102 H103 < m48 xs49 H50)
                  (pBin EK.other BinOp.add (xs49.getD 0 V.undef) (V.int .i64 1) H85 fun v104 =>
                  pWk (List.length H42) [v104] H85 fun xs105 H106 => (I47 xs105 H106) ∧ m48 xs105 H106 < m48 xs49 H50))))
            (pLoad true 9 v39 H50 fun v107 =>
            pSt 9 v2 v107 H50 fun H109 =>
            pLoad true 9 v2 H109 fun v111 =>
            pWk (List.length H0) [(V.tup [v111, (V.bool true)])] H109 fun xs112 H113 => (Q (nthV xs112 0) H113)))))
def h21 : Nat → Option (List Nat)
  | 5 => some [31]
  | _ => none
theorem c21 {x0 x1 x2 : V} {H0 : Heap} {Q : V → Heap → Prop} (h : t21 x0 x1 x2 H0 Q) : Ct Try.prog 21 [x0, x1, x2] H0 Q :=
  Ct_of_text (fn := Try.f21) h21 (by kernel_rfl) (by kernel_rfl) (by kernel_rfl) (by kernel_rfl) h

def t22 (x0 : V) (H0 : Heap) (Q : V → Heap → Prop) : Prop :=
  pBox 29 x0 H0 fun v0 H1 =>
  pFa 0 1 v0 fun v2 =>
  pLoad false 1 v2 H1 fun v3 =>
  pLn false v3 fun v4 =>
  pFa 0 1 v0 fun v5 =>
  pLoad false 1 v5 H1 fun v6 =>
  pCall Try.prog 122 [v6] H1 fun v7 H8 =>
  cIf v7
    (pFa 1 5 v0 fun v9 =>
    pLoad true 5 v9 H8 fun v10 =>
    pCall Try.prog 123 [v10] H8 fun v11 H12 =>
    cIf v11
      (pFa 6 1 v0 fun v13 =>
      pLoad false 1 v13 H12 fun v14 =>
      pCall Try.prog 124 [v4, v14] H12 fun v15 H16 =>
      cIf v15
        (pFa 7 1 v0 fun v17 =>
        pLoad false 1 v17 H16 fun v18 =>
        pCall Try.prog 125 [v18, v4] H16 fun v19 H20 =>
        cIf v19
          (pFa 8 1 v0 fun v21 =>
          pLoad false 1 v21 H20 fun v22 =>
          pCall Try.prog 125 [v22, v4] H20 fun v23 H24 =>
          pWk (List.length H0) [v23] H24 fun xs25 H26 => (Q (nthV xs25 0) H26))
          (pWk (List.length H0) [(V.bool false)] H20 fun xs27 H28 => (Q (nthV xs27 0) H28)))
        (pWk (List.length H0) [(V.bool false)] H16 fun xs29 H30 => (Q (nthV xs29 0) H30)))
      (pWk (List.length H0) [(V.bool false)] H12 fun xs31 H32 => (Q (nthV xs31 0) H32)))
    (pWk (List.length H0) [(V.bool false)] H8 fun xs33 H34 => (Q (nthV xs33 0) H34))
def h22 : Nat → Option (List Nat)
  | _ => none
theorem c22 {x0 : V} {H0 : Heap} {Q : V → Heap → Prop} (h : t22 x0 H0 Q) : Ct Try.prog 22 [x0] H0 Q :=
  Ct_of_text (fn := Try.f22) h22 (by kernel_rfl) (by kernel_rfl) (by kernel_rfl) (by kernel_rfl) h

def t23 (x0 x1 : V) (H0 : Heap) (Q : V → Heap → Prop) : Prop :=
  pBox 29 x0 H0 fun v0 H1 =>
  pLoad true 9 v0 H1 fun v2 =>
  pCall Try.prog 22 [v2] H1 fun v3 H4 =>
  pNot v3 fun v5 =>
  cIf v5
    (pWk (List.length H0) [(V.bool false)] H4 fun xs6 H7 => (Q (nthV xs6 0) H7))
    (pLoad true 9 v0 H4 fun v8 =>
    pCall Try.prog 118 [v8, x1] H4 fun v9 H10 =>
    pNot v9 fun v11 =>
    cIf v11
      (pWk (List.length H0) [(V.bool false)] H10 fun xs12 H13 => (Q (nthV xs12 0) H13))
      (pFa 6 1 v0 fun v14 =>
      pLoad false 1 v14 H10 fun v15 =>
      pLn false v15 fun v16 =>
      ∃ (I17 : List V → Heap → Prop) (m18 : List V → Heap → Nat), (pWk (List.length H10) [(V.int .i64 0), (V.int .i64 0)] H10 fun xs21 H22 => (I17 xs21 H22)) ∧
        ∀ xs19 H20, I17 xs19 H20 →
        pBin EK.other BinOp.lss (xs19.getD 1 V.undef) v16 H20 fun v23 =>
        cIf v23
          (pIndexAddr 5 v15 (xs19.getD 1 V.undef) H20 fun v24 =>
          pLoad true 5 v24 H20 fun v25 =>
          pBox 40 (V.agg [(V.int .i64 0), (V.int .i64 0), (V.int .i64 0), (V.int .i64 0), (V.int .i64 0)]) H20 fun v26 H27 =>
          pSt 5 v26 v25 H27 fun H29 =>
          pLoad true 5 v26 H29 fun v31 =>
          pCall Try.prog 120 [v31, x1] H29 fun v32 H33 =>
          cIf v32
            (pBin EK.other BinOp.add (xs19.getD 0 V.undef) (V.int .i64 1) H33 fun v34 =>
            pFa 4 1 v26 fun v35 =>
            pLoad false 1 v35 H33 fun v36 =>
            pBin EK.other BinOp.neq v36 (V.int .i64 4) H33 fun v37 =>
            cIf v37
              (pWk (List.length H0) [(V.bool false)] H33 fun xs38 H39 => (Q (nthV xs38 0) H39))
              (pBin EK.other BinOp.add (xs19.getD 1 V.undef) (V.int .i64 1) H33 fun v40 =>
              pWk (List.length H10) [v34, v40] H33 fun xs41 H42 => (I17 xs41 H42) ∧ m18 xs41 H42 < m18 xs19 H20))
            (pBin EK.other BinOp.add (xs19.getD 1 V.undef) (V.int .i64 1) H33 fun v43 =>
            pWk (List.length H10) [(xs19.getD 0 V.undef), v43] H33 fun xs44 H45 => (I17 xs44 H45) ∧ m18 xs44 H45 < m18 xs19 H20))
          (pBin EK.other BinOp.gtr (xs19.getD 0 V.undef) (V.int .i64 0) H20 fun v46 =>
          pWk (List.length H0) [v46] H20 fun xs47 H48 => (Q (nthV xs47 0) H48))))
def h23 : Nat → Option (List Nat)
  | 5 => some [5, 20]
  | _ => none
theorem c23 {x0 x1 : V} {H0 : Heap} {Q : V → Heap → Prop} (h : t23 x0 x1 H0 Q) : Ct Try.prog 23 [x0, x1] H0 Q :=
  Ct_of_text (fn := Try.f23) h23 (by kernel_rfl) (by kernel_rfl) (by kernel_rfl) (by kernel_rfl) h

def t24 (x0 x1 : V) (H0 : Heap) (Q : V → Heap → Prop) : Prop :=
  pLn false x0 fun v0 =>
  ∃ (I1 : List V → Heap → Prop) (m2 : List V → Heap → Nat), (pWk (List.length H0) [(V.int .i64 0)] H0 fun xs5 H6 => (I1 xs5 H6)) ∧
    ∀ xs3 H4, I1 xs3 H4 →
    pBin EK.other BinOp.lss (xs3.getD 0 V.undef) v0 H4 fun v7 =>
    cIf v7
      (pIndexAddr 1 x0 (xs3.getD 0 V.undef) H4 fun v8 =>
      pLoad false 1 v8 H4 fun v9 =>
      pBin EK.other BinOp.eql v9 x1 H4 fun v10 =>
      cIf v10
        (pWk (List.length H0) [(V.bool true)] H4 fun xs11 H12 => (Q (nthV xs11 0) H12))
        (pBin EK.other BinOp.add (xs3.getD 0 V.undef) (V.int .i64 1) H4 fun v13 =>
        pWk (List.length H0) [v13] H4 fun xs14 H15 => (I1 xs14 H15) ∧ m2 xs14 H15 < m2 xs3 H4))
      (pWk (List.length H0) [(V.bool false)] H4 fun xs16 H17 => (Q (nthV xs16 0) H17))
def h24 : Nat → Option (List Nat)
  | 2 => some [9]
  | _ => none
theorem c24 {x0 x1 : V} {H0 : Heap} {Q : V → Heap → Prop} (h : t24 x0 x1 H0 Q) : Ct Try.prog 24 [x0, x1] H0 Q :=
  Ct_of_text (fn := Try.f24) h24 (by kernel_rfl) (by kernel_rfl) (by kernel_rfl) (by kernel_rfl) h

def t25 (x0 : V) (H0 : Heap) (Q : V → Heap → Prop) : Prop :=
  pBox 29 x0 H0 fun v0 H1 =>
  pLoad true 9 v0 H1 fun v2 =>
  pCall Try.prog 22 [v2] H1 fun v3 H4 =>
  pNot v3 fun v5 =>
  cIf v5
    (pWk (List.length H0) [(V.sl false 1 [])] H4 fun xs6 H7 => (Q (nthV xs6 0) H7))
    (pFa 0 1 v0 fun v8 =>
    pLoad false 1 v8 H4 fun v9 =>
    pLn false v9 fun v10 =>
    pCall Try.prog 127 [v10] H4 fun v11 H12 =>
    pCall Try.prog 126 [v11, (V.fn 128 [v0])] H12 fun v13 H14 =>
    pWk (List.length H0) [v13] H14 fun xs15 H16 => (Q (nthV xs15 0) H16))
def h25 : Nat → Option (List Nat)
  | _ => none
theorem c25 {x0 : V} {H0 : Heap} {Q : V → Heap → Prop} (h : t25 x0 H0 Q) : Ct Try.prog 25 [x0] H0 Q :=
  Ct_of_text (fn := Try.f25) h25 (by kernel_rfl) (by kernel_rfl) (by kernel_rfl) (by kernel_rfl) h

def t26 (x0 x1 : V) (H0 : Heap) (Q : V → Heap → Prop) : Prop :=
  pBox 29 x0 H0 fun v0 H1 =>
  pBox 29 x1 H1 fun v2 H3 =>
  pFa 6 1 v0 fun v4 =>
  pLoad false 1 v4 H3 fun v5 =>
  pLn false v5 fun v6 =>
  pFa 6 1 v2 fun v7 =>
  pLoad false 1 v7 H3 fun v8 =>
  pLn false v8 fun v9 =>
  pMin v6 v9 fun v10 =>
  pCall Try.prog 127 [v10] H3 fun v11 H12 =>
  pCall Try.prog 126 [v11, (V.fn 129 [v0, v2])] H12 fun v13 H14 =>
  pWk (List.length H0) [v13] H14 fun xs15 H16 => (Q (nthV xs15 0) H16)
def h26 : Nat → Option (List Nat)
  | _ => none
theorem c26 {x0 x1 : V} {H0 : Heap} {Q : V → Heap → Prop} (h : t26 x0 x1 H0 Q) : Ct Try.prog 26 [x0, x1] H0 Q :=
  Ct_of_text (fn := Try.f26) h26 (by kernel_rfl) (by kernel_rfl) (by kernel_rfl) (by kernel_rfl) h

def t27 (x0 : V) (H0 : Heap) (Q : V → Heap → Prop) : Prop :=
  pBox 40 x0 H0 fun v0 H1 =>
  pFa 4 1 v0 fun v2 =>
  pLoad false 1 v2 H1 fun v3 =>
  pBin EK.other BinOp.eql v3 (V.int .i64 0) H1 fun v4 =>
  pWk (List.length H0) [v4] H1 fun xs5 H6 => (Q (nthV xs5 0) H6)
def h27 : Nat → Option (List Nat)
  | _ => none
theorem c27 {x0 : V} {H0 : Heap} {Q : V → Heap → Prop} (h : t27 x0 H0 Q) : Ct Try.prog 27 [x0] H0 Q :=
  Ct_of_text (fn := Try.f27) h27 (by kernel_rfl) (by kernel_rfl) (by kernel_rfl) (by kernel_rfl) h

def t28 (x0 x1 x2 : V) (H0 : Heap) (Q : V → Heap → Prop) : Prop :=
  pBox 29 x0 H0 fun v0 H1 =>
  pLoad true 9 v0 H1 fun v2 =>
  pCall Try.prog 21 [v2, x1, x2] H1 fun v3 H4 =>
  pTup v3 0 fun v5 =>
  pTup v3 1 fun v6 =>
  pBox 29 (V.agg [(V.sl false 3 []), (V.int .i64 0), (V.int .i64 0), (V.int .i64 0), (V.sl false 1 []), (V.bool false), (V.sl false 5 []), (V.sl false 1 []), (V.sl false 1 [])]) H4 fun v7 H8 =>
  pSt 9 v7 v5 H8 fun H10 =>
  pNot v6 fun v12 =>
  cIf v12
    (pWk (List.length H0) [(V.sl false 1 [])] H10 fun xs13 H14 => (Q (nthV xs13 0) H14))
    (pBs 3 1 (V.int .i64 0) 0 [] [] H10 fun v15 H16 =>
    pLoad true 9 v7 H16 fun v17 =>
    pCall Try.prog 130 [v17] H16 fun v18 H19 =>
    pField v18 false 1 9 fun v20 =>
    pLoad true 9 v0 H19 fun v21 =>
    pCall Try.prog 130 [v21] H19 fun v22 H23 =>
    pField v22 false 1 9 fun v24 =>
    pLn false v24 fun v25 =>
    ∃ (I26 : List V → Heap → Prop) (m27 : List V → Heap → Nat), (pWk (List.length H23) [v15, (V.int .i64 0)] H23 fun xs30 H31 => (I26 xs30 H31)) ∧
      ∀ xs28 H29, I26 xs28 H29 →
      pBin EK.other BinOp.lss (xs28.getD 1 V.undef) v25 H29 fun v32 =>
      cIf v32
        (pIndexAddr 7 v24 (xs28.getD 1 V.undef) H29 fun v33 =>
        pLoad true 7 v33 H29 fun v34 =>
        pBox 158 (V.agg [(V.int .i64 0), (V.int .i64 0), (V.int .i64 0), (V.int .i64 0), (V.int .i64 0), (V.int .i64 0), (V.int .i64 0)]) H29 fun v35 H36 =>
        pSt 7 v35 v34 H36 fun H38 =>
        pFa 6 1 v35 fun v40 =>
        pLoad false 1 v40 H38 fun v41 =>
        pIndexAddr 7 v20 (xs28.getD 1 V.undef) H38 fun v42 =>
        pFa 6 1 v42 fun v43 =>
        pLoad false 1 v43 H38 fun v44 =>
        pBin EK.other BinOp.sub v41 v44 H38 fun v45 =>
        pBs 3 1 (V.int .i64 0) 1 [0] [v45] H38 fun v46 H47 =>
        True ∧ pAp 24 3 1 8 (V.int .i64 0) (xs28.getD 0 V.undef) v46 H47 fun v48 H49 =>
        True ∧ pBin EK.other BinOp.add (xs28.getD 1 V.undef) (V.int .i64 1) H49 fun v50 =>
        pWk (List.length H23) [v48, v50] H49 fun xs51 H52 => (I26 xs51 H52) ∧ m27 xs51 H52 < m27 xs28 H29)
        (pWk (List.length H0) [(xs28.getD 0 V.undef)] H29 fun xs53 H54 => (Q (nthV xs53 0) H54)))
def h28 : Nat → Option (List Nat)
  | 6 => some [9, 30]
  | _ => none
theorem c28 {x0 x1 x2 : V} {H0 : Heap} {Q : V → Heap → Prop} (h : t28 x0 x1 x2 H0 Q) : Ct Try.prog 28 [x0, x1, x2] H0 Q :=
  Ct_of_text (fn := Try.f28) h28 (by kernel_rfl) (by kernel_rfl) (by kernel_rfl) (by kernel_rfl) h

def t29 (x0 : V) (H0 : Heap) (Q : V → Heap → Prop) : Prop :=
  pBin EK.other BinOp.eql x0 (V.int .i64 1) H0 fun v0 =>
  cIf v0
    (pWk (List.length H0) [(V.str ({ data := #[97, 110, 110, 117, 108] }))] H0 fun xs1 H2 => (Q (nthV xs1 0) H2))
    (pBin EK.other BinOp.eql x0 (V.int .i64 2) H0 fun v3 =>
    cIf v3
      (pWk (List.length H0) [(V.str ({ data := #[102, 111, 114, 102, 101, 105, 116] }))] H0 fun xs4 H5 => (Q (nthV xs4 0) H5))
      (pWk (List.length H0) [(V.str ({ data := #[] }))] H0 fun xs6 H7 => (Q (nthV xs6 0) H7)))
def h29 : Nat → Option (List Nat)
  | _ => none
theorem c29 {x0 : V} {H0 : Heap} {Q : V → Heap → Prop} (h : t29 x0 H0 Q) : Ct Try.prog 29 [x0] H0 Q :=
  Ct_of_text (fn := Try.f29) h29 (by kernel_rfl) (by kernel_rfl) (by kernel_rfl) (by kernel_rfl) h

def t30 (x0 x1 : V) (H0 : Heap) (Q : V → Heap → Prop) : Prop :=
  pBox 29 x0 H0 fun v0 H1 =>
  pLoad true 9 v0 H1 fun v2 =>
  pCall Try.prog 22 [v2] H1 fun v3 H4 =>
  pNot v3 fun v5 =>
  cIf v5
    (pWk (List.length H0) [(V.int .i64 0)] H4 fun xs6 H7 => (Q (nthV xs6 0) H7))
    (pLoad true 9 v0 H4 fun v8 =>
    pCall Try.prog 118 [v8, x1] H4 fun v9 H10 =>
    pNot v9 fun v11 =>
    cIf v11
      (pWk (List.length H0) [(V.int .i64 0)] H10 fun xs12 H13 => (Q (nthV xs12 0) H13))
      (pFa 6 1 v0 fun v14 =>
      pLoad false 1 v14 H10 fun v15 =>
      pLn false v15 fun v16 =>
      ∃ (I17 : List V → Heap → Prop) (m18 : List V → Heap → Nat), (pWk (List.length H10) [(V.int .i64 0), (V.int .i64 0), (V.int .i64 0)] H10 fun xs21 H22 => (I17 xs21 H22)) ∧
        ∀ xs19 H20, I17 xs19 H20 →
        pBin EK.other BinOp.lss (xs19.getD 2 V.undef) v16 H20 fun v23 =>
        cIf v23
          (pIndexAddr 5 v15 (xs19.getD 2 V.undef) H20 fun v24 =>
          pLoad true 5 v24 H20 fun v25 =>
          pBox 40 (V.agg [(V.int .i64 0), (V.int .i64 0), (V.int .i64 0), (V.int .i64 0), (V.int .i64 0)]) H20 fun v26 H27 =>
          pSt 5 v26 v25 H27 fun H29 =>
          pLoad true 5 v26 H29 fun v31 =>
          pCall Try.prog 120 [v31, x1] H29 fun v32 H33 =>
          pNot v32 fun v34 =>
          cIf v34
            (pBin EK.other BinOp.add (xs19.getD 2 V.undef) (V.int .i64 1) H33 fun v35 =>
            pWk (List.length H10) [(xs19.getD 0 V.undef), (xs19.getD 1 V.undef), v35] H33 fun xs36 H37 => (I17 xs36 H37) ∧ m18 xs36 H37 < m18 xs19 H20)
            (pFa 4 1 v26 fun v38 =>
            pLoad false 1 v38 H33 fun v39 =>
            pBin EK.other BinOp.eql v39 (V.int .i64 4) H33 fun v40 =>
            cIf v40
              (pBin EK.other BinOp.add (xs19.getD 2 V.undef) (V.int .i64 1) H33 fun v41 =>
              pWk (List.length H10) [(xs19.getD 0 V.undef), (xs19.getD 1 V.undef), v41] H33 fun xs42 H43 => (I17 xs42 H43) ∧ m18 xs42 H43 < m18 xs19 H20)
              (pBin EK.other BinOp.add (xs19.getD 0 V.undef) (V.int .i64 1) H33 fun v44 =>
              pLoad true 5 v26 H33 fun v45 =>
              pCall Try.prog 27 [v45] H33 fun v46 H47 =>
              pNot v46 fun v48 =>
              cIf v48
                (pBin EK.other BinOp.add (xs19.getD 1 V.undef) (V.int .i64 1) H47 fun v49 =>
                pBin EK.other BinOp.add (xs19.getD 2 V.undef) (V.int .i64 1) H47 fun v50 =>
                pWk (List.length H10) [v44, v49, v50] H47 fun xs51 H52 => (I17 xs51 H52) ∧ m18 xs51 H52 < m18 xs19 H20)
                (pBin EK.other BinOp.add (xs19.getD 2 V.undef) (V.int .i64 1) H47 fun v53 =>
                pWk (List.length H10) [v44, (xs19.getD 1 V.undef), v53] H47 fun xs54 H55 => (I17 xs54 H55) ∧ m18 xs54 H55 < m18 xs19 H20))))
          (pBin EK.other BinOp.mul (V.int .i64 2) (xs19.getD 1 V.undef) H20 fun v56 =>
          pBin EK.other BinOp.geq v56 (xs19.getD 0 V.undef) H20 fun v57 =>
          cIf v57
            (pWk (List.length H0) [(V.int .i64 2)] H20 fun xs58 H59 => (Q (nthV xs58 0) H59))
            (pWk (List.length H0) [(V.int .i64 1)] H20 fun xs60 H61 => (Q (nthV xs60 0) H61)))))
def h30 : Nat → Option (List Nat)
  | 5 => some [5, 6, 21]
  | _ => none
theorem c30 {x0 x1 : V} {H0 : Heap} {Q : V → Heap → Prop} (h : t30 x0 x1 H0 Q) : Ct Try.prog 30 [x0, x1] H0 Q :=
  Ct_of_text (fn := Try.f30) h30 (by kernel_rfl) (by kernel_rfl) (by kernel_rfl) (by kernel_rfl) h

def t113 (x0 : V) (H0 : Heap) (Q : V → Heap → Prop) : Prop :=
  pLn false x0 fun v0 =>
  pBin EK.other BinOp.add (V.int .i64 1978) v0 H0 fun v1 =>
  ∃ (I2 : List V → Heap → Prop) (m3 : List V → Heap → Nat), (pWk (List.length H0) [v1, (V.int .i64 0)] H0 fun xs6 H7 => (I2 xs6 H7)) ∧
    ∀ xs4 H5, I2 xs4 H5 →
    pLn false x0 fun v8 =>
    pBin EK.other BinOp.lss (xs4.getD 1 V.undef) v8 H5 fun v9 =>
    cIf v9
      (pBin EK.other BinOp.lss (xs4.getD 1 V.undef) (V.int .i64 4000) H5 fun v10 =>
      cIf v10
        (pBin EK.other BinOp.mul (xs4.getD 0 V.undef) (V.int .i64 89) H5 fun v11 =>
        pIndexAddr 1 x0 (xs4.getD 1 V.undef) H5 fun v12 =>
        pLoad false 1 v12 H5 fun v13 =>
        pConvInt .i64 v13 fun v14 =>
        pBin EK.other BinOp.add v11 v14 H5 fun v15 =>
        pBin EK.other BinOp.add v15 (V.int .i64 7) H5 fun v16 =>
        pBin EK.other BinOp.and v16 (V.int .i64 1073741823) H5 fun v17 =>
        pBin EK.other BinOp.add (xs4.getD 1 V.undef) (V.int .i64 1) H5 fun v18 =>
        pWk (List.length H0) [v17, v18] H5 fun xs19 H20 => (I2 xs19 H20) ∧ m3 xs19 H20 < m3 xs4 H5)
        (pBuild [(V.sl false 1 []), (V.int .i64 0), (V.int .i64 0)] [(.mk 0 (.mk 1 x0)), (.mk 2 (.mk 1 (xs4.getD 0 V.undef)))] fun v21 =>
        pBox 232 v21 H5 fun v22 H23 =>
        pWk (List.length H0) [v22] H23 fun xs24 H25 => (Q (nthV xs24 0) H25)))
      (pBuild [(V.sl false 1 []), (V.int .i64 0), (V.int .i64 0)] [(.mk 0 (.mk 1 x0)), (.mk 2 (.mk 1 (xs4.getD 0 V.undef)))] fun v26 =>
      pBox 232 v26 H5 fun v27 H28 =>
      pWk (List.length H0) [v27] H28 fun xs29 H30 => (Q (nthV xs29 0) H30))
def h113 : Nat → Option (List Nat)
  | 3 => some [3, 4]
  | _ => none
theorem c113 {x0 : V} {H0 : Heap} {Q : V → Heap → Prop} (h : t113 x0 H0 Q) : Ct Try.prog 113 [x0] H0 Q :=
  Ct_of_text (fn := Try.f113) h113 (by kernel_rfl) (by kernel_rfl) (by kernel_rfl) (by kernel_rfl) h

def t114 (x0 x1 x2 : V) (H0 : Heap) (Q : V → Heap → Prop) : Prop :=
  pBox 29 (V.agg [(V.sl false 3 []), (V.int .i64 0), (V.int .i64 0), (V.int .i64 0), (V.sl false 1 []), (V.bool false), (V.sl false 5 []), (V.sl false 1 []), (V.sl false 1 [])]) H0 fun v0 H1 =>
  pCall Try.prog 228 [x0, x1] H1 fun v2 H3 =>
  pCall Try.prog 229 [x0] H3 fun v4 H5 =>
  pCall Try.prog 230 [x0, x1, x2] H5 fun v6 H7 =>
  pBuild [(V.sl false 3 []), (V.int .i64 0), (V.int .i64 0), (V.int .i64 0), (V.sl false 1 []), (V.bool false), (V.sl false 5 []), (V.sl false 1 []), (V.sl false 1 [])] [(.mk 0 (.mk 1 v2)), (.mk 1 (.mk 5 v4)), (.mk 6 (.mk 1 v6))] fun v8 =>
  pBox 29 (V.agg [(V.sl false 3 []), (V.int .i64 0), (V.int .i64 0), (V.int .i64 0), (V.sl false 1 []), (V.bool false), (V.sl false 5 []), (V.sl false 1 []), (V.sl false 1 [])]) H7 fun v9 H10 =>
  pSt 9 v9 v8 H10 fun H12 =>
  ∃ (I14 : List V → Heap → Prop) (m15 : List V → Heap → Nat), (pWk (List.length H12) [(V.int .i64 0)] H12 fun xs18 H19 => (I14 xs18 H19)) ∧
    ∀ xs16 H17, I14 xs16 H17 →
    pBin EK.other BinOp.lss (xs16.getD 0 V.undef) x1 H17 fun v20 =>
    cIf v20
      (pFa 7 1 v9 fun v21 =>
      pLoad false 1 v21 H17 fun v22 =>
      pCall Try.prog 115 [x0, (V.int .i64 4)] H17 fun v23 H24 =>
      (keepV v21 H17 H24 ∧ True) ∧ pBs 3 1 (V.int .i64 0) 1 [0] [v23] H24 fun v25 H26 =>
      (keepV v21 H24 H26 ∧ True) ∧ pAp 24 3 1 8 (V.int .i64 0) v22 v25 H26 fun v27 H28 =>
      True ∧ pFa 7 1 v9 fun v29 =>
      pSt 1 v29 v27 H28 fun H31 =>
      True ∧ pFa 8 1 v9 fun v33 =>
      pLoad false 1 v33 H31 fun v34 =>
      pBs 3 1 (V.int .i64 0) 4 [0, 1, 2, 3] [(V.int .i64 0), (V.int .i64 0), (V.int .i64 0), (V.int .i64 1)] H31 fun v35 H36 =>
      (keepV v33 H31 H36 ∧ True) ∧ pCall Try.prog 231 [x0, v35] H36 fun v37 H38 =>
      (keepV v33 H36 H38 ∧ True) ∧ pBs 3 1 (V.int .i64 0) 1 [0] [v37] H38 fun v39 H40 =>
      (keepV v33 H38 H40 ∧ True) ∧ pAp 24 3 1 8 (V.int .i64 0) v34 v39 H40 fun v41 H42 =>
      True ∧ pFa 8 1 v9 fun v43 =>
      pSt 1 v43 v41 H42 fun H45 =>
      True ∧ pBin EK.other BinOp.add (xs16.getD 0 V.undef) (V.int .i64 1) H45 fun v47 =>
      pWk (List.length H12) [v47] H45 fun xs48 H49 => (I14 xs48 H49) ∧ m15 xs48 H49 < m15 xs16 H17)
      (pLoad true 9 v9 H17 fun v50 =>
      pSt 9 v0 v50 H17 fun H52 =>
      pLoad true 9 v0 H52 fun v54 =>
      pWk (List.length H0) [v54] H52 fun xs55 H56 => (Q (nthV xs55 0) H56))
def h114 : Nat → Option (List Nat)
  | 3 => some [8]
  | _ => none
theorem c114 {x0 x1 x2 : V} {H0 : Heap} {Q : V → Heap → Prop} (h : t114 x0 x1 x2 H0 Q) : Ct Try.prog 114 [x0, x1, x2] H0 Q :=
  Ct_of_text (fn := Try.f114) h114 (by kernel_rfl) (by kernel_rfl) (by kernel_rfl) (by kernel_rfl) h

def t115 (x0 x1 : V) (H0 : Heap) (Q : V → Heap → Prop) : Prop :=
  pBin EK.other BinOp.leq x1 (V.int .i64 0) H0 fun v0 =>
  cIf v0
    (pWk (List.length H0) [(V.int .i64 0)] H0 fun xs1 H2 => (Q (nthV xs1 0) H2))
    (pBin EK.other BinOp.leq x1 (V.int .i64 256) H0 fun v3 =>
    cIf v3
      (pCall Try.prog 117 [x0] H0 fun v4 H5 =>
      pBin EK.other BinOp.rem v4 x1 H5 fun v6 =>
      pWk (List.length H0) [v6] H5 fun xs7 H8 => (Q (nthV xs7 0) H8))
      (pCall Try.prog 117 [x0] H0 fun v9 H10 =>
      pCall Try.prog 117 [x0] H10 fun v11 H12 =>
      pCall Try.prog 117 [x0] H12 fun v13 H14 =>
      pCall Try.prog 117 [x0] H14 fun v15 H16 =>
      pBin EK.other BinOp.mul v9 (V.int .i64 16777216) H16 fun v17 =>
      pBin EK.other BinOp.mul v11 (V.int .i64 65536) H16 fun v18 =>
      pBin EK.other BinOp.add v17 v18 H16 fun v19 =>
      pBin EK.other BinOp.mul v13 (V.int .i64 256) H16 fun v20 =>
      pBin EK.other BinOp.add v19 v20 H16 fun v21 =>
      pBin EK.other BinOp.add v21 v15 H16 fun v22 =>
      pBin EK.other BinOp.rem v22 x1 H16 fun v23 =>
      pWk (List.length H0) [v23] H16 fun xs24 H25 => (Q (nthV xs24 0) H25)))
def h115 : Nat → Option (List Nat)
  | _ => none
theorem c115 {x0 x1 : V} {H0 : Heap} {Q : V → Heap → Prop} (h : t115 x0 x1 H0 Q) : Ct Try.prog 115 [x0, x1] H0 Q :=
  Ct_of_text (fn := Try.f115) h115 (by kernel_rfl) (by kernel_rfl) (by kernel_rfl) (by kernel_rfl) h

def t116 (x0 x1 : V) (H0 : Heap) (Q : V → Heap → Prop) : Prop :=
  pCall Try.prog 113 [x0] H0 fun v0 H1 =>
  ∃ (I2 : List V → Heap → Prop) (m3 : List V → Heap → Nat), (pWk (List.length H1) [(V.int .i64 0)] H1 fun xs6 H7 => (I2 xs6 H7)) ∧
    ∀ xs4 H5, I2 xs4 H5 →
    pBin EK.other BinOp.lss (xs4.getD 0 V.undef) x1 H5 fun v8 =>
    cIf v8
      (pCall Try.prog 117 [v0] H5 fun _v9 H10 =>
      pBin EK.other BinOp.add (xs4.getD 0 V.undef) (V.int .i64 1) H10 fun v11 =>
      pWk (List.length H1) [v11] H10 fun xs12 H13 => (I2 xs12 H13) ∧ m3 xs12 H13 < m3 xs4 H5)
      (pWk (List.length H0) [v0] H5 fun xs14 H15 => (Q (nthV xs14 0) H15))
def h116 : Nat → Option (List Nat)
  | 3 => some [6]
  | _ => none
theorem c116 {x0 x1 : V} {H0 : Heap} {Q : V → Heap → Prop} (h : t116 x0 x1 H0 Q) : Ct Try.prog 116 [x0, x1] H0 Q :=
  Ct_of_text (fn := Try.f116) h116 (by kernel_rfl) (by kernel_rfl) (by kernel_rfl) (by kernel_rfl) h

def t117 (x0 : V) (H0 : Heap) (Q : V → Heap → Prop) : Prop :=
  pNil x0 fun v0 =>
  pFa 2 1 v0 fun v1 =>
  pLoad false 1 v1 H0 fun v2 =>
  pBin EK.other BinOp.mul v2 (V.int .i64 6364136223846793005) H0 fun v3 =>
  pBin EK.other BinOp.add v3 (V.int .i64 1442695040888963407) H0 fun v4 =>
  pNil x0 fun v5 =>
  pFa 2 1 v5 fun v6 =>
  pSt 1 v6 v4 H0 fun H8 =>
  pNil x0 fun v10 =>
  pFa 2 1 v10 fun v11 =>
  pLoad false 1 v11 H8 fun v12 =>
  pBin EK.other BinOp.shr v12 (V.int .u64 33) H8 fun v13 =>
  pNil x0 fun v14 =>
  pFa 2 1 v14 fun v15 =>
  pLoad false 1 v15 H8 fun v16 =>
  pBin EK.other BinOp.shr v16 (V.int .u64 45) H8 fun v17 =>
  pBin EK.other BinOp.xor v13 v17 H8 fun v18 =>
  pBin EK.other BinOp.and v18 (V.int .i64 255) H8 fun v19 =>
  pNil x0 fun v20 =>
  pFa 1 1 v20 fun v21 =>
  pLoad false 1 v21 H8 fun v22 =>
  pNil x0 fun v23 =>
  pFa 0 1 v23 fun v24 =>
  pLoad false 1 v24 H8 fun v25 =>
  pLn false v25 fun v26 =>
  pBin EK.other BinOp.lss v22 v26 H8 fun v27 =>
  cIf v27
    (pNil x0 fun v28 =>
    pFa 0 1 v28 fun v29 =>
    pLoad false 1 v29 H8 fun v30 =>
    pNil x0 fun v31 =>
    pFa 1 1 v31 fun v32 =>
    pLoad false 1 v32 H8 fun v33 =>
    pIndexAddr 1 v30 v33 H8 fun v34 =>
    pLoad false 1 v34 H8 fun v35 =>
    pConvInt .i64 v35 fun v36 =>
    pBin EK.other BinOp.add v19 v36 H8 fun v37 =>
    pBin EK.other BinOp.and v37 (V.int .i64 255) H8 fun v38 =>
    pNil x0 fun v39 =>
    pFa 1 1 v39 fun v40 =>
    pLoad false 1 v40 H8 fun v41 =>
    pBin EK.other BinOp.add v41 (V.int .i64 1) H8 fun v42 =>
    pNil x0 fun v43 =>
    pFa 1 1 v43 fun v44 =>
    pSt 1 v44 v42 H8 fun H46 =>
    pWk (List.length H0) [v38] H46 fun xs48 H49 => (Q (nthV xs48 0) H49))
    (pWk (List.length H0) [v19] H8 fun xs50 H51 => (Q (nthV xs50 0) H51))
def h117 : Nat → Option (List Nat)
  | _ => none
theorem c117 {x0 : V} {H0 : Heap} {Q : V → Heap → Prop} (h : t117 x0 H0 Q) : Ct Try.prog 117 [x0] H0 Q :=
  Ct_of_text (fn := Try.f117) h117 (by kernel_rfl) (by kernel_rfl) (by kernel_rfl) (by kernel_rfl) h

def t118 (x0 x1 : V) (H0 : Heap) (Q : V → Heap → Prop) : Prop :=
  pBox 29 x0 H0 fun v0 H1 =>
  pFa 0 1 v0 fun v2 =>
  pLoad false 1 v2 H1 fun v3 =>
  pLn false v3 fun v4 =>
  pBin EK.other BinOp.sub v4 (V.int .i64 1) H1 fun v5 =>
  pCall Try.prog 139 [x1, (V.int .i64 0), v5] H1 fun v6 H7 =>
  pWk (List.length H0) [v6] H7 fun xs8 H9 => (Q (nthV xs8 0) H9)
def h118 : Nat → Option (List Nat)
  | _ => none
theorem c118 {x0 x1 : V} {H0 : Heap} {Q : V → Heap → Prop} (h : t118 x0 x1 H0 Q) : Ct Try.prog 118 [x0, x1] H0 Q :=
  Ct_of_text (fn := Try.f118) h118 (by kernel_rfl) (by kernel_rfl) (by kernel_rfl) (by kernel_rfl) h

def t119 (x0 : V) (H0 : Heap) (Q : V → Heap → Prop) : Prop :=
  pBox 29 x0 H0 fun v0 H1 =>
  pBox 29 (V.agg [(V.sl false 3 []), (V.int .i64 0), (V.int .i64 0), (V.int .i64 0), (V.sl false 1 []), (V.bool false), (V.sl false 5 []), (V.sl false 1 []), (V.sl false 1 [])]) H1 fun v2 H3 =>
  pFa 0 1 v0 fun v4 =>
  pLoad false 1 v4 H3 fun v5 =>
  pFa 6 1 v0 fun v6 =>
  pLoad false 1 v6 H3 fun v7 =>
  pFa 7 1 v0 fun v8 =>
  pLoad false 1 v8 H3 fun v9 =>
  pFa 8 1 v0 fun v10 =>
  pLoad false 1 v10 H3 fun v11 =>
  pCall Try.prog 232 [v5] H3 fun v12 H13 =>
  (keepV v10 H3 H13 ∧ (keepV v8 H3 H13 ∧ (keepV v6 H3 H13 ∧ True))) ∧ pFa 0 1 v0 fun v14 =>
  pCall Try.prog 233 [v7] H13 fun v15 H16 =>
  (keepV v10 H13 H16 ∧ (keepV v8 H13 H16 ∧ True)) ∧ pCall Try.prog 137 [v9] H16 fun v17 H18 =>
  (keepV v10 H16 H18 ∧ True) ∧ pCall Try.prog 137 [v11] H18 fun v19 H20 =>
  True ∧ pSt 1 v14 v12 H20 fun H22 =>
  True ∧ pFa 6 1 v0 fun v24 =>
  pSt 1 v24 v15 H22 fun H26 =>
  True ∧ pFa 7 1 v0 fun v28 =>
  pSt 1 v28 v17 H26 fun H30 =>
  True ∧ pFa 8 1 v0 fun v32 =>
  pSt 1 v32 v19 H30 fun H34 =>
  True ∧ pFa 1 5 v0 fun v36 =>
  pFa 3 1 v36 fun v37 =>
  pLoad false 1 v37 H34 fun v38 =>
  pCall Try.prog 137 [v38] H34 fun v39 H40 =>
  pFa 1 5 v0 fun v41 =>
  pFa 3 1 v41 fun v42 =>
  pSt 1 v42 v39 H40 fun H44 =>
  pLoad true 9 v0 H44 fun v46 =>
  pSt 9 v2 v46 H44 fun H48 =>
  pLoad true 9 v2 H48 fun v50 =>
  pWk (List.length H0) [v50] H48 fun xs51 H52 => (Q (nthV xs51 0) H52)
def h119 : Nat → Option (List Nat)
  | _ => none
theorem c119 {x0 : V} {H0 : Heap} {Q : V → Heap → Prop} (h : t119 x0 H0 Q) : Ct Try.prog 119 [x0] H0 Q :=
  Ct_of_text (fn := Try.f119) h119 (by kernel_rfl) (by kernel_rfl) (by kernel_rfl) (by kernel_rfl) h

def t120 (x0 x1 : V) (H0 : Heap) (Q : V → Heap → Prop) : Prop :=
  pBox 40 x0 H0 fun v0 H1 =>
  pFa 0 1 v0 fun v2 =>
  pLoad false 1 v2 H1 fun v3 =>
  pBin EK.other BinOp.eql v3 x1 H1 fun v4 =>
  cIf v4
    (pWk (List.length H0) [(V.bool true)] H1 fun xs5 H6 => (Q (nthV xs5 0) H6))
    (pFa 1 1 v0 fun v7 =>
    pLoad false 1 v7 H1 fun v8 =>
    pBin EK.other BinOp.eql v8 x1 H1 fun v9 =>
    pWk (List.length H0) [v9] H1 fun xs10 H11 => (Q (nthV xs10 0) H11))
def h120 : Nat → Option (List Nat)
  | _ => none
theorem c120 {x0 x1 : V} {H0 : Heap} {Q : V → Heap → Prop} (h : t120 x0 x1 H0 Q) : Ct Try.prog 120 [x0, x1] H0 Q :=
  Ct_of_text (fn := Try.f120) h120 (by kernel_rfl) (by kernel_rfl) (by kernel_rfl) (by kernel_rfl) h

def t121 (x0 x1 : V) (H0 : Heap) (Q : V → Heap → Prop) : Prop :=
  pBox 40 x0 H0 fun v0 H1 =>
  pBox 40 (V.agg [(V.int .i64 0), (V.int .i64 0), (V.int .i64 0), (V.int .i64 0), (V.int .i64 0)]) H1 fun v2 H3 =>
  pFa 0 1 v0 fun v4 =>
  pLoad false 1 v4 H3 fun v5 =>
  pFa 1 1 v0 fun v6 =>
  pLoad false 1 v6 H3 fun v7 =>
  pBuild [(V.int .i64 0), (V.int .i64 0), (V.int .i64 0), (V.int .i64 0), (V.int .i64 0)] [(.mk 0 (.mk 1 v5)), (.mk 1 (.mk 1 v7)), (.mk 4 (.mk 1 (V.int .i64 2)))] fun v8 =>
  pBox 40 (V.agg [(V.int .i64 0), (V.int .i64 0), (V.int .i64 0), (V.int .i64 0), (V.int .i64 0)]) H3 fun v9 H10 =>
  pSt 5 v9 v8 H10 fun H12 =>
  pFa 1 1 v0 fun v14 =>
  pLoad false 1 v14 H12 fun v15 =>
  pBin EK.other BinOp.eql v15 x1 H12 fun v16 =>
  cIf v16
    (pFa 4 1 v9 fun v17 =>
    pSt 1 v17 (V.int .i64 3) H12 fun H19 =>
    pLoad true 5 v9 H19 fun v21 =>
    pSt 5 v2 v21 H19 fun H23 =>
    pLoad true 5 v2 H23 fun v25 =>
    pWk (List.length H0) [v25] H23 fun xs26 H27 => (Q (nthV xs26 0) H27))
    (pLoad true 5 v9 H12 fun v28 =>
    pSt 5 v2 v28 H12 fun H30 =>
    pLoad true 5 v2 H30 fun v32 =>
    pWk (List.length H0) [v32] H30 fun xs33 H34 => (Q (nthV xs33 0) H34))
def h121 : Nat → Option (List Nat)
  | _ => none
theorem c121 {x0 x1 : V} {H0 : Heap} {Q : V → Heap → Prop} (h : t121 x0 x1 H0 Q) : Ct Try.prog 121 [x0, x1] H0 Q :=
  Ct_of_text (fn := Try.f121) h121 (by kernel_rfl) (by kernel_rfl) (by kernel_rfl) (by kernel_rfl) h

end Go.Sim

set_option maxRecDepth 100000
namespace Go.Sim
open Go.Proofs

def t139 (x0 x1 x2 : V) (H0 : Heap) (Q : V → Heap → Prop) : Prop :=
  pBin EK.other BinOp.leq x1 x0 H0 fun v0 =>
  cIf v0
    (pBin EK.other BinOp.leq x0 x2 H0 fun v1 =>
    pWk (List.length H0) [v1] H0 fun xs2 H3 => (Q (nthV xs2 0) H3))
    (pWk (List.length H0) [(V.bool false)] H0 fun xs4 H5 => (Q (nthV xs4 0) H5))
def h139 : Nat → Option (List Nat)
  | _ => none
theorem c139 {x0 x1 x2 : V} {H0 : Heap} {Q : V → Heap → Prop} (h : t139 x0 x1 x2 H0 Q) : Ct Try.prog 139 [x0, x1, x2] H0 Q :=
  Ct_of_text (fn := Try.f139) h139 (by kernel_rfl) (by kernel_rfl) (by kernel_rfl) (by kernel_rfl) h

def t237 (x0 : V) (H0 : Heap) (Q : V → Heap → Prop) : Prop :=
  pCall Try.prog 139 [x0, (V.int .i64 1), (V.int .i64 8)] H0 fun v0 H1 =>
  pWk (List.length H0) [v0] H1 fun xs2 H3 => (Q (nthV xs2 0) H3)
def h237 : Nat → Option (List Nat)
  | _ => none
theorem c237 {x0 : V} {H0 : Heap} {Q : V → Heap → Prop} (h : t237 x0 H0 Q) : Ct Try.prog 237 [x0] H0 Q :=
  Ct_of_text (fn := Try.f237) h237 (by kernel_rfl) (by kernel_rfl) (by kernel_rfl) (by kernel_rfl) h

def t187 (x0 : V) (H0 : Heap) (Q : V → Heap → Prop) : Prop :=
  pBox 40 x0 H0 fun v0 H1 =>
  pFa 4 1 v0 fun v2 =>
  pLoad false 1 v2 H1 fun v3 =>
  pBin EK.other BinOp.eql v3 (V.int .i64 1) H1 fun v4 =>
  cIf v4
    (pFa 2 1 v0 fun v5 =>
    pLoad false 1 v5 H1 fun v6 =>
    pFa 3 1 v0 fun v7 =>
    pLoad false 1 v7 H1 fun v8 =>
    pWk (List.length H0) [(V.tup [v6, v8, (V.bool true)])] H1 fun xs9 H10 => (Q (nthV xs9 0) H10))
    (pBin EK.other BinOp.eql v3 (V.int .i64 2) H1 fun v11 =>
    cIf v11
      (pWk (List.length H0) [(V.tup [(V.int .i64 3), (V.int .i64 0), (V.bool true)])] H1 fun xs12 H13 => (Q (nthV xs12 0) H13))
      (pBin EK.other BinOp.eql v3 (V.int .i64 3) H1 fun v14 =>
      cIf v14
        (pWk (List.length H0) [(V.tup [(V.int .i64 0), (V.int .i64 3), (V.bool true)])] H1 fun xs15 H16 => (Q (nthV xs15 0) H16))
        (pWk (List.length H0) [(V.tup [(V.int .i64 0), (V.int .i64 0), (V.bool false)])] H1 fun xs17 H18 => (Q (nthV xs17 0) H18))))
def h187 : Nat → Option (List Nat)
  | _ => none
theorem c187 {x0 : V} {H0 : Heap} {Q : V → Heap → Prop} (h : t187 x0 H0 Q) : Ct Try.prog 187 [x0] H0 Q :=
  Ct_of_text (fn := Try.f187) h187 (by kernel_rfl) (by kernel_rfl) (by kernel_rfl) (by kernel_rfl) h

def t278 (x0 : V) (H0 : Heap) (Q : V → Heap → Prop) : Prop :=
  pLn true x0 fun v0 =>
  ∃ (I1 : List V → Heap → Prop) (m2 : List V → Heap → Nat), (pWk (List.length H0) [(V.int .i64 0)] H0 fun xs5 H6 => (I1 xs5 H6)) ∧
    ∀ xs3 H4, I1 xs3 H4 →
    pBin EK.other BinOp.lss (xs3.getD 0 V.undef) v0 H4 fun v7 =>
    cIf v7
      (pAt x0 (xs3.getD 0 V.undef) fun v8 =>
      pBin EK.other BinOp.geq v8 (V.int .u8 97) H4 fun v9 =>
      cIf v9
        (pAt x0 (xs3.getD 0 V.undef) fun v10 =>
        pBin EK.other BinOp.leq v10 (V.int .u8 122) H4 fun v11 =>
        pNot v11 fun v12 =>
        cIf v12
          (pBin EK.other BinOp.eql (xs3.getD 0 V.undef) (V.int .i64 0) H4 fun v13 =>
          cIf v13
            (pWk (List.length H0) [(V.bool false)] H4 fun xs14 H15 => (Q (nthV xs14 0) H15))
            (pAt x0 (xs3.getD 0 V.undef) fun v16 =>
            pBin EK.other BinOp.lss v16 (V.int .u8 48) H4 fun v17 =>
            cIf v17
              (pWk (List.length H0) [(V.bool false)] H4 fun xs18 H19 => (Q (nthV xs18 0) H19))
              (pAt x0 (xs3.getD 0 V.undef) fun v20 =>
              pBin EK.other BinOp.gtr v20 (V.int .u8 57) H4 fun v21 =>
              cIf v21
                (pWk (List.length H0) [(V.bool false)] H4 fun xs22 H23 => (Q (nthV xs22 0) H23))
                (pBin EK.other BinOp.add (xs3.getD 0 V.undef) (V.int .i64 1) H4 fun v24 =>
                pWk (List.length H0) [v24] H4 fun xs25 H26 => (I1 xs25 H26) ∧ m2 xs25 H26 < m2 xs3 H4))))
          (pBin EK.other BinOp.add (xs3.getD 0 V.undef) (V.int .i64 1) H4 fun v27 =>
          pWk (List.length H0) [v27] H4 fun xs28 H29 => (I1 xs28 H29) ∧ m2 xs28 H29 < m2 xs3 H4))
        (pNot (V.bool false) fun v30 =>
        cIf v30
          (pBin EK.other BinOp.eql (xs3.getD 0 V.undef) (V.int .i64 0) H4 fun v31 =>
          cIf v31
            (pWk (List.length H0) [(V.bool false)] H4 fun xs32 H33 => (Q (nthV xs32 0) H33))
            (pAt x0 (xs3.getD 0 V.undef) fun v34 =>
            pBin EK.other BinOp.lss v34 (V.int .u8 48) H4 fun v35 =>
            cIf v35
              (pWk (List.length H0) [(V.bool false)] H4 fun xs36 H37 => (Q (nthV xs36 0) H37))
              (pAt x0 (xs3.getD 0 V.undef) fun v38 =>
              pBin EK.other BinOp.gtr v38 (V.int .u8 57) H4 fun v39 =>
              cIf v39
                (pWk (List.length H0) [(V.bool false)] H4 fun xs40 H41 => (Q (nthV xs40 0) H41))
                (pBin EK.other BinOp.add (xs3.getD 0 V.undef) (V.int .i64 1) H4 fun v42 =>
                pWk (List.length H0) [v42] H4 fun xs43 H44 => (I1 xs43 H44) ∧ m2 xs43 H44 < m2 xs3 H4))))
          (pBin EK.other BinOp.add (xs3.getD 0 V.undef) (V.int .i64 1) H4 fun v45 =>
          pWk (List.length H0) [v45] H4 fun xs46 H47 => (I1 xs46 H47) ∧ m2 xs46 H47 < m2 xs3 H4)))
      (pLn true x0 fun v48 =>
      pCall Try.prog 139 [v48, (V.int .i64 1), (V.int .i64 8)] H4 fun v49 H50 =>
      pWk (List.length H0) [v49] H50 fun xs51 H52 => (Q (nthV xs51 0) H52))
def h278 : Nat → Option (List Nat)
  | 2 => some [7]
  | _ => none
theorem c278 {x0 : V} {H0 : Heap} {Q : V → Heap → Prop} (h : t278 x0 H0 Q) : Ct Try.prog 278 [x0] H0 Q :=
  Ct_of_text (fn := Try.f278) h278 (by kernel_rfl) (by kernel_rfl) (by kernel_rfl) (by kernel_rfl) h

def t234 (x0 : V) (H0 : Heap) (Q : V → Heap → Prop) : Prop :=
  pBox 178 x0 H0 fun v0 H1 =>
  pFa 0 1 v0 fun v2 =>
  pLoad false 1 v2 H1 fun v3 =>
  pCall Try.prog 278 [v3] H1 fun v4 H5 =>
  cIf v4
    (pFa 1 1 v0 fun v6 =>
    pLoad false 1 v6 H5 fun v7 =>
    pCall Try.prog 139 [v7, (V.int .i64 0), (V.int .i64 5)] H5 fun v8 H9 =>
    cIf v8
      (pFa 2 1 v0 fun v10 =>
      pLoad false 1 v10 H9 fun v11 =>
      pCall Try.prog 139 [v11, (V.int .i64 1), (V.int .i64 8)] H9 fun v12 H13 =>
      pWk (List.length H0) [v12] H13 fun xs14 H15 => (Q (nthV xs14 0) H15))
      (pWk (List.length H0) [(V.bool false)] H9 fun xs16 H17 => (Q (nthV xs16 0) H17)))
    (pWk (List.length H0) [(V.bool false)] H5 fun xs18 H19 => (Q (nthV xs18 0) H19))
def h234 : Nat → Option (List Nat)
  | _ => none
theorem c234 {x0 : V} {H0 : Heap} {Q : V → Heap → Prop} (h : t234 x0 H0 Q) : Ct Try.prog 234 [x0] H0 Q :=
  Ct_of_text (fn := Try.f234) h234 (by kernel_rfl) (by kernel_rfl) (by kernel_rfl) (by kernel_rfl) h

def t236 (x0 x1 : V) (H0 : Heap) (Q : V → Heap → Prop) : Prop :=
  pBox 178 x0 H0 fun v0 H1 =>
  pFa 0 1 v0 fun v2 =>
  pLoad false 1 v2 H1 fun v3 =>
  pFa 0 1 x1 fun v4 =>
  pLoad false 1 v4 H1 fun v5 =>
  pBin EK.other BinOp.eql v3 v5 H1 fun v6 =>
  cIf v6
    (pWk (List.length H0) [(V.bool true)] H1 fun xs7 H8 => (Q (nthV xs7 0) H8))
    (pFa 2 1 v0 fun v9 =>
    pLoad false 1 v9 H1 fun v10 =>
    pFa 2 1 x1 fun v11 =>
    pLoad false 1 v11 H1 fun v12 =>
    pBin EK.other BinOp.eql v10 v12 H1 fun v13 =>
    pWk (List.length H0) [v13] H1 fun xs14 H15 => (Q (nthV xs14 0) H15))
def h236 : Nat → Option (List Nat)
  | _ => none
theorem c236 {x0 x1 : V} {H0 : Heap} {Q : V → Heap → Prop} (h : t236 x0 x1 H0 Q) : Ct Try.prog 236 [x0, x1] H0 Q :=
  Ct_of_text (fn := Try.f236) h236 (by kernel_rfl) (by kernel_rfl) (by kernel_rfl) (by kernel_rfl) h

def t279 (x0 x1 : V) (H0 : Heap) (Q : V → Heap → Prop) : Prop :=
  pLn false x0 fun v0 =>
  ∃ (I1 : List V → Heap → Prop) (m2 : List V → Heap → Nat), (pWk (List.length H0) [(V.int .i64 0)] H0 fun xs5 H6 => (I1 xs5 H6)) ∧
    ∀ xs3 H4, I1 xs3 H4 →
    pBin EK.other BinOp.lss (xs3.getD 0 V.undef) v0 H4 fun v7 =>
    cIf v7
      (pIndexAddr 3 x0 (xs3.getD 0 V.undef) H4 fun v8 =>
      pLoad true 3 v8 H4 fun v9 =>
      pCallV Try.prog x1 [v9] H4 fun v10 H11 =>
      cIf v10
        (pWk (List.length H0) [(xs3.getD 0 V.undef)] H11 fun xs12 H13 => (Q (nthV xs12 0) H13))
        (pBin EK.other BinOp.add (xs3.getD 0 V.undef) (V.int .i64 1) H11 fun v14 =>
        pWk (List.length H0) [v14] H11 fun xs15 H16 => (I1 xs15 H16) ∧ m2 xs15 H16 < m2 xs3 H4))
      (pWk (List.length H0) [(V.int .i64 (-1))] H4 fun xs17 H18 => (Q (nthV xs17 0) H18))
def h279 : Nat → Option (List Nat)
  | 2 => some [8]
  | _ => none
theorem c279 {x0 x1 : V} {H0 : Heap} {Q : V → Heap → Prop} (h : t279 x0 x1 H0 Q) : Ct Try.prog 279 [x0, x1] H0 Q :=
  Ct_of_text (fn := Try.f279) h279 (by kernel_rfl) (by kernel_rfl) (by kernel_rfl) (by kernel_rfl) h

def t235 (x0 x1 : V) (H0 : Heap) (Q : V → Heap → Prop) : Prop :=
  pCall Try.prog 279 [x0, x1] H0 fun v0 H1 =>
  pBin EK.other BinOp.geq v0 (V.int .i64 0) H1 fun v2 =>
  pWk (List.length H0) [v2] H1 fun xs3 H4 => (Q (nthV xs3 0) H4)
def h235 : Nat → Option (List Nat)
  | _ => none
theorem c235 {x0 x1 : V} {H0 : Heap} {Q : V → Heap → Prop} (h : t235 x0 x1 H0 Q) : Ct Try.prog 235 [x0, x1] H0 Q :=
  Ct_of_text (fn := Try.f235) h235 (by kernel_rfl) (by kernel_rfl) (by kernel_rfl) (by kernel_rfl) h

def t122 (x0 : V) (H0 : Heap) (Q : V → Heap → Prop) : Prop :=
  pLn false x0 fun v0 =>
  ∃ (I1 : List V → Heap → Prop) (m2 : List V → Heap → Nat), (pWk (List.length H0) [(V.int .i64 0)] H0 fun xs5 H6 => (I1 xs5 H6)) ∧
    ∀ xs3 H4, I1 xs3 H4 →
    pBin EK.other BinOp.lss (xs3.getD 0 V.undef) v0 H4 fun v7 =>
    cIf v7
      (pIndexAddr 3 x0 (xs3.getD 0 V.undef) H4 fun v8 =>
      pLoad true 3 v8 H4 fun v9 =>
      pBox 178 (V.agg [(V.str ({ data := #[] })), (V.int .i64 0), (V.int .i64 0)]) H4 fun v10 H11 =>
      pSt 3 v10 v9 H11 fun H13 =>
      pLoad true 3 v10 H13 fun v15 =>
      pCall Try.prog 234 [v15] H13 fun v16 H17 =>
      pNot v16 fun v18 =>
      cIf v18
        (pWk (List.length H0) [(V.bool false)] H17 fun xs19 H20 => (Q (nthV xs19 0) H20))
        (pSc false 3 x0 none (some (xs3.getD 0 V.undef)) H17 fun v21 =>
        pCall Try.prog 235 [v21, (V.fn 236 [v10])] H17 fun v22 H23 =>
        cIf v22
          (pWk (List.length H0) [(V.bool false)] H23 fun xs24 H25 => (Q (nthV xs24 0) H25))
          (pBin EK.other BinOp.add (xs3.getD 0 V.undef) (V.int .i64 1) H23 fun v26 =>
          pWk (List.length H0) [v26] H23 fun xs27 H28 => (I1 xs27 H28) ∧ m2 xs27 H28 < m2 xs3 H4)))
      (pLn false x0 fun v29 =>
      pCall Try.prog 139 [v29, (V.int .i64 2), (V.int .i64 8)] H4 fun v30 H31 =>
      pWk (List.length H0) [v30] H31 fun xs32 H33 => (Q (nthV xs32 0) H33))
def h122 : Nat → Option (List Nat)
  | 2 => some [7]
  | _ => none
theorem c122 {x0 : V} {H0 : Heap} {Q : V → Heap → Prop} (h : t122 x0 H0 Q) : Ct Try.prog 122 [x0] H0 Q :=
  Ct_of_text (fn := Try.f122) h122 (by kernel_rfl) (by kernel_rfl) (by kernel_rfl) (by kernel_rfl) h

def t140 (x0 x1 : V) (H0 : Heap) (Q : V → Heap → Prop) : Prop :=
  pCall Try.prog 248 [x0, x1] H0 fun v0 H1 =>
  pBin EK.other BinOp.geq v0 (V.int .i64 0) H1 fun v2 =>
  pWk (List.length H0) [v2] H1 fun xs3 H4 => (Q (nthV xs3 0) H4)
def h140 : Nat → Option (List Nat)
  | _ => none
theorem c140 {x0 x1 : V} {H0 : Heap} {Q : V → Heap → Prop} (h : t140 x0 x1 H0 Q) : Ct Try.prog 140 [x0, x1] H0 Q :=
  Ct_of_text (fn := Try.f140) h140 (by kernel_rfl) (by kernel_rfl) (by kernel_rfl) (by kernel_rfl) h

def t248 (x0 x1 : V) (H0 : Heap) (Q : V → Heap → Prop) : Prop :=
  pLn false x0 fun v0 =>
  ∃ (I1 : List V → Heap → Prop) (m2 : List V → Heap → Nat), (pWk (List.length H0) [(V.int .i64 0)] H0 fun xs5 H6 => (I1 xs5 H6)) ∧
    ∀ xs3 H4, I1 xs3 H4 →
    pBin EK.other BinOp.lss (xs3.getD 0 V.undef) v0 H4 fun v7 =>
    cIf v7
      (pIndexAddr 1 x0 (xs3.getD 0 V.undef) H4 fun v8 =>
      pLoad false 1 v8 H4 fun v9 =>
      pBin EK.other BinOp.eql x1 v9 H4 fun v10 =>
      cIf v10
        (pWk (List.length H0) [(xs3.getD 0 V.undef)] H4 fun xs11 H12 => (Q (nthV xs11 0) H12))
        (pBin EK.other BinOp.add (xs3.getD 0 V.undef) (V.int .i64 1) H4 fun v13 =>
        pWk (List.length H0) [v13] H4 fun xs14 H15 => (I1 xs14 H15) ∧ m2 xs14 H15 < m2 xs3 H4))
      (pWk (List.length H0) [(V.int .i64 (-1))] H4 fun xs16 H17 => (Q (nthV xs16 0) H17))
def h248 : Nat → Option (List Nat)
  | 2 => some [8]
  | _ => none
theorem c248 {x0 x1 : V} {H0 : Heap} {Q : V → Heap → Prop} (h : t248 x0 x1 H0 Q) : Ct Try.prog 248 [x0, x1] H0 Q :=
  Ct_of_text (fn := Try.f248) h248 (by kernel_rfl) (by kernel_rfl) (by kernel_rfl) (by kernel_rfl) h

def t123 (x0 : V) (H0 : Heap) (Q : V → Heap → Prop) : Prop :=
  pBox 26 x0 H0 fun v0 H1 =>
  pFa 3 1 v0 fun v2 =>
  pLoad false 1 v2 H1 fun v3 =>
  pLn false v3 fun v4 =>
  ∃ (I5 : List V → Heap → Prop) (m6 : List V → Heap → Nat), (pWk (List.length H1) [(V.int .i64 0)] H1 fun xs9 H10 => (I5 xs9 H10)) ∧
    ∀ xs7 H8, I5 xs7 H8 →
    pBin EK.other BinOp.lss (xs7.getD 0 V.undef) v4 H8 fun v11 =>
    cIf v11
      (pIndexAddr 1 v3 (xs7.getD 0 V.undef) H8 fun v12 =>
      pLoad false 1 v12 H8 fun v13 =>
      pCall Try.prog 237 [v13] H8 fun v14 H15 =>
      pNot v14 fun v16 =>
      cIf v16
        (pWk (List.length H0) [(V.bool false)] H15 fun xs17 H18 => (Q (nthV xs17 0) H18))
        (pFa 3 1 v0 fun v19 =>
        pLoad false 1 v19 H15 fun v20 =>
        pSc false 1 v20 none (some (xs7.getD 0 V.undef)) H15 fun v21 =>
        pCall Try.prog 140 [v21, v13] H15 fun v22 H23 =>
        cIf v22
          (pWk (List.length H0) [(V.bool false)] H23 fun xs24 H25 => (Q (nthV xs24 0) H25))
          (pBin EK.other BinOp.add (xs7.getD 0 V.undef) (V.int .i64 1) H23 fun v26 =>
          pWk (List.length H1) [v26] H23 fun xs27 H28 => (I5 xs27 H28) ∧ m6 xs27 H28 < m6 xs7 H8)))
      (pFa 2 1 v0 fun v29 =>
      pLoad false 1 v29 H8 fun v30 =>
      pBin EK.other BinOp.leq (V.int .i64 0) v30 H8 fun v31 =>
      cIf v31
        (pFa 2 1 v0 fun v32 =>
        pLoad false 1 v32 H8 fun v33 =>
        pFa 1 1 v0 fun v34 =>
        pLoad false 1 v34 H8 fun v35 =>
        pBin EK.other BinOp.leq v33 v35 H8 fun v36 =>
        cIf v36
          (pFa 1 1 v0 fun v37 =>
          pLoad false 1 v37 H8 fun v38 =>
          pFa 0 1 v0 fun v39 =>
          pLoad false 1 v39 H8 fun v40 =>
          pBin EK.other BinOp.leq v38 v40 H8 fun v41 =>
          cIf v41
            (pFa 0 1 v0 fun v42 =>
            pLoad false 1 v42 H8 fun v43 =>
            pBin EK.other BinOp.leq v43 (V.int .i64 10) H8 fun v44 =>
            cIf v44
              (pFa 3 1 v0 fun v45 =>
              pLoad false 1 v45 H8 fun v46 =>
              pLn false v46 fun v47 =>
              pCall Try.prog 139 [v47, (V.int .i64 1), (V.int .i64 8)] H8 fun v48 H49 =>
              pWk (List.length H0) [v48] H49 fun xs50 H51 => (Q (nthV xs50 0) H51))
              (pWk (List.length H0) [(V.bool false)] H8 fun xs52 H53 => (Q (nthV xs52 0) H53)))
            (pWk (List.length H0) [(V.bool false)] H8 fun xs54 H55 => (Q (nthV xs54 0) H55)))
          (pWk (List.length H0) [(V.bool false)] H8 fun xs56 H57 => (Q (nthV xs56 0) H57)))
        (pWk (List.length H0) [(V.bool false)] H8 fun xs58 H59 => (Q (nthV xs58 0) H59)))
def h123 : Nat → Option (List Nat)
  | 2 => some [8]
  | _ => none
theorem c123 {x0 : V} {H0 : Heap} {Q : V → Heap → Prop} (h : t123 x0 H0 Q) : Ct Try.prog 123 [x0] H0 Q :=
  Ct_of_text (fn := Try.f123) h123 (by kernel_rfl) (by kernel_rfl) (by kernel_rfl) (by kernel_rfl) h

def t238 (x0 x1 : V) (H0 : Heap) (Q : V → Heap → Prop) : Prop :=
  pBox 40 x1 H0 fun v0 H1 =>
  pFa 4 1 v0 fun v2 =>
  pLoad false 1 v2 H1 fun v3 =>
  pBin EK.other BinOp.eql v3 (V.int .i64 1) H1 fun v4 =>
  cIf v4
    (pCall Try.prog 139 [x0, (V.int .i64 2), (V.int .i64 8)] H1 fun v5 H6 =>
    cIf v5
      (pFa 0 1 v0 fun v7 =>
      pLoad false 1 v7 H6 fun v8 =>
      pFa 1 1 v0 fun v9 =>
      pLoad false 1 v9 H6 fun v10 =>
      pBin EK.other BinOp.neq v8 v10 H6 fun v11 =>
      cIf v11
        (pFa 0 1 v0 fun v12 =>
        pLoad false 1 v12 H6 fun v13 =>
        pBin EK.other BinOp.sub x0 (V.int .i64 1) H6 fun v14 =>
        pCall Try.prog 139 [v13, (V.int .i64 0), v14] H6 fun v15 H16 =>
        cIf v15
          (pFa 1 1 v0 fun v17 =>
          pLoad false 1 v17 H16 fun v18 =>
          pBin EK.other BinOp.sub x0 (V.int .i64 1) H16 fun v19 =>
          pCall Try.prog 139 [v18, (V.int .i64 0), v19] H16 fun v20 H21 =>
          cIf v20
            (pFa 4 1 v0 fun v22 =>
            pLoad false 1 v22 H21 fun v23 =>
            pCall Try.prog 139 [v23, (V.int .i64 0), (V.int .i64 4)] H21 fun v24 H25 =>
            cIf v24
              (pFa 2 1 v0 fun v26 =>
              pLoad false 1 v26 H25 fun v27 =>
              pCall Try.prog 139 [v27, (V.int .i64 0), (V.int .i64 99)] H25 fun v28 H29 =>
              cIf v28
                (pFa 3 1 v0 fun v30 =>
                pLoad false 1 v30 H29 fun v31 =>
                pCall Try.prog 139 [v31, (V.int .i64 0), (V.int .i64 99)] H29 fun v32 H33 =>
                pWk (List.length H0) [v32] H33 fun xs34 H35 => (Q (nthV xs34 0) H35))
                (pWk (List.length H0) [(V.bool false)] H29 fun xs36 H37 => (Q (nthV xs36 0) H37)))
              (pWk (List.length H0) [(V.bool false)] H25 fun xs38 H39 => (Q (nthV xs38 0) H39)))
            (pWk (List.length H0) [(V.bool false)] H21 fun xs40 H41 => (Q (nthV xs40 0) H41)))
          (pWk (List.length H0) [(V.bool false)] H16 fun xs42 H43 => (Q (nthV xs42 0) H43)))
        (pWk (List.length H0) [(V.bool false)] H6 fun xs44 H45 => (Q (nthV xs44 0) H45)))
      (pWk (List.length H0) [(V.bool false)] H6 fun xs46 H47 => (Q (nthV xs46 0) H47)))
    (pCall Try.prog 139 [x0, (V.int .i64 2), (V.int .i64 8)] H1 fun v48 H49 =>
    cIf v48
      (pFa 0 1 v0 fun v50 =>
      pLoad false 1 v50 H49 fun v51 =>
      pFa 1 1 v0 fun v52 =>
      pLoad false 1 v52 H49 fun v53 =>
      pBin EK.other BinOp.neq v51 v53 H49 fun v54 =>
      cIf v54
        (pFa 0 1 v0 fun v55 =>
        pLoad false 1 v55 H49 fun v56 =>
        pBin EK.other BinOp.sub x0 (V.int .i64 1) H49 fun v57 =>
        pCall Try.prog 139 [v56, (V.int .i64 0), v57] H49 fun v58 H59 =>
        cIf v58
          (pFa 1 1 v0 fun v60 =>
          pLoad false 1 v60 H59 fun v61 =>
          pBin EK.other BinOp.sub x0 (V.int .i64 1) H59 fun v62 =>
          pCall Try.prog 139 [v61, (V.int .i64 0), v62] H59 fun v63 H64 =>
          cIf v63
            (pFa 4 1 v0 fun v65 =>
            pLoad false 1 v65 H64 fun v66 =>
            pCall Try.prog 139 [v66, (V.int .i64 0), (V.int .i64 4)] H64 fun v67 H68 =>
            cIf v67
              (pFa 2 1 v0 fun v69 =>
              pLoad false 1 v69 H68 fun v70 =>
              pCall Try.prog 139 [v70, (V.int .i64 0), (V.int .i64 0)] H68 fun v71 H72 =>
              cIf v71
                (pFa 3 1 v0 fun v73 =>
                pLoad false 1 v73 H72 fun v74 =>
                pCall Try.prog 139 [v74, (V.int .i64 0), (V.int .i64 0)] H72 fun v75 H76 =>
                pWk (List.length H0) [v75] H76 fun xs77 H78 => (Q (nthV xs77 0) H78))
                (pWk (List.length H0) [(V.bool false)] H72 fun xs79 H80 => (Q (nthV xs79 0) H80)))
              (pWk (List.length H0) [(V.bool false)] H68 fun xs81 H82 => (Q (nthV xs81 0) H82)))
            (pWk (List.length H0) [(V.bool false)] H64 fun xs83 H84 => (Q (nthV xs83 0) H84)))
          (pWk (List.length H0) [(V.bool false)] H59 fun xs85 H86 => (Q (nthV xs85 0) H86)))
        (pWk (List.length H0) [(V.bool false)] H49 fun xs87 H88 => (Q (nthV xs87 0) H88)))
      (pWk (List.length H0) [(V.bool false)] H49 fun xs89 H90 => (Q (nthV xs89 0) H90)))
def h238 : Nat → Option (List Nat)
  | _ => none
theorem c238 {x0 x1 : V} {H0 : Heap} {Q : V → Heap → Prop} (h : t238 x0 x1 H0 Q) : Ct Try.prog 238 [x0, x1] H0 Q :=
  Ct_of_text (fn := Try.f238) h238 (by kernel_rfl) (by kernel_rfl) (by kernel_rfl) (by kernel_rfl) h

def t281 (x0 x1 x2 : V) (H0 : Heap) (Q : V → Heap → Prop) : Prop :=
  pBox 40 x0 H0 fun v0 H1 =>
  pFa 0 1 v0 fun v2 =>
  pLoad false 1 v2 H1 fun v3 =>
  pLoad false 1 x1 H1 fun v4 =>
  pBin EK.other BinOp.eql v3 v4 H1 fun v5 =>
  cIf v5
    (pFa 1 1 v0 fun v6 =>
    pLoad false 1 v6 H1 fun v7 =>
    pLoad false 1 x2 H1 fun v8 =>
    pBin EK.other BinOp.eql v7 v8 H1 fun v9 =>
    pWk (List.length H0) [v9] H1 fun xs10 H11 => (Q (nthV xs10 0) H11))
    (pWk (List.length H0) [(V.bool false)] H1 fun xs12 H13 => (Q (nthV xs12 0) H13))
def h281 : Nat → Option (List Nat)
  | _ => none
theorem c281 {x0 x1 x2 : V} {H0 : Heap} {Q : V → Heap → Prop} (h : t281 x0 x1 x2 H0 Q) : Ct Try.prog 281 [x0, x1, x2] H0 Q :=
  Ct_of_text (fn := Try.f281) h281 (by kernel_rfl) (by kernel_rfl) (by kernel_rfl) (by kernel_rfl) h

def t280 (x0 x1 : V) (H0 : Heap) (Q : V → Heap → Prop) : Prop :=
  pLn false x0 fun v0 =>
  ∃ (I1 : List V → Heap → Prop) (m2 : List V → Heap → Nat), (pWk (List.length H0) [(V.int .i64 0)] H0 fun xs5 H6 => (I1 xs5 H6)) ∧
    ∀ xs3 H4, I1 xs3 H4 →
    pBin EK.other BinOp.lss (xs3.getD 0 V.undef) v0 H4 fun v7 =>
    cIf v7
      (pIndexAddr 5 x0 (xs3.getD 0 V.undef) H4 fun v8 =>
      pLoad true 5 v8 H4 fun v9 =>
      pCallV Try.prog x1 [v9] H4 fun v10 H11 =>
      cIf v10
        (pWk (List.length H0) [(xs3.getD 0 V.undef)] H11 fun xs12 H13 => (Q (nthV xs12 0) H13))
        (pBin EK.other BinOp.add (xs3.getD 0 V.undef) (V.int .i64 1) H11 fun v14 =>
        pWk (List.length H0) [v14] H11 fun xs15 H16 => (I1 xs15 H16) ∧ m2 xs15 H16 < m2 xs3 H4))
      (pWk (List.length H0) [(V.int .i64 (-1))] H4 fun xs17 H18 => (Q (nthV xs17 0) H18))
def h280 : Nat → Option (List Nat)
  | 2 => some [8]
  | _ => none
theorem c280 {x0 x1 : V} {H0 : Heap} {Q : V → Heap → Prop} (h : t280 x0 x1 H0 Q) : Ct Try.prog 280 [x0, x1] H0 Q :=
  Ct_of_text (fn := Try.f280) h280 (by kernel_rfl) (by kernel_rfl) (by kernel_rfl) (by kernel_rfl) h

def t239 (x0 x1 x2 : V) (H0 : Heap) (Q : V → Heap → Prop) : Prop :=
  pBox 3 x1 H0 fun v0 H1 =>
  pBox 3 x2 H1 fun v2 H3 =>
  pCall Try.prog 280 [x0, (V.fn 281 [v0, v2])] H3 fun v4 H5 =>
  pWk (List.length H0) [v4] H5 fun xs6 H7 => (Q (nthV xs6 0) H7)
def h239 : Nat → Option (List Nat)
  | _ => none
theorem c239 {x0 x1 x2 : V} {H0 : Heap} {Q : V → Heap → Prop} (h : t239 x0 x1 x2 H0 Q) : Ct Try.prog 239 [x0, x1, x2] H0 Q :=
  Ct_of_text (fn := Try.f239) h239 (by kernel_rfl) (by kernel_rfl) (by kernel_rfl) (by kernel_rfl) h

def t124 (x0 x1 : V) (H0 : Heap) (Q : V → Heap → Prop) : Prop :=
  pLn false x1 fun v0 =>
  ∃ (I1 : List V → Heap → Prop) (m2 : List V → Heap → Nat), (pWk (List.length H0) [(V.int .i64 0)] H0 fun xs5 H6 => (I1 xs5 H6)) ∧
    ∀ xs3 H4, I1 xs3 H4 →
    pBin EK.other BinOp.lss (xs3.getD 0 V.undef) v0 H4 fun v7 =>
    cIf v7
      (pIndexAddr 5 x1 (xs3.getD 0 V.undef) H4 fun v8 =>
      pLoad true 5 v8 H4 fun v9 =>
      pBox 40 (V.agg [(V.int .i64 0), (V.int .i64 0), (V.int .i64 0), (V.int .i64 0), (V.int .i64 0)]) H4 fun v10 H11 =>
      pSt 5 v10 v9 H11 fun H13 =>
      pLoad true 5 v10 H13 fun v15 =>
      pCall Try.prog 238 [x0, v15] H13 fun v16 H17 =>
      True ∧ pNot v16 fun v18 =>
      cIf v18
        (True ∧ pWk (List.length H0) [(V.bool false)] H17 fun xs19 H20 => (Q (nthV xs19 0) H20))
        (pSc false 5 x1 none (some (xs3.getD 0 V.undef)) H17 fun v21 =>
        pFa 0 1 v10 fun v22 =>
        pLoad false 1 v22 H17 fun v23 =>
        pFa 1 1 v10 fun v24 =>
        pLoad false 1 v24 H17 fun v25 =>
        pCall Try.prog 239 [v21, v23, v25] H17 fun v26 H27 =>
        True ∧ pBin EK.other BinOp.geq v26 (V.int .i64 0) H27 fun v28 =>
        cIf v28
          (pWk (List.length H0) [(V.bool false)] H27 fun xs29 H30 => (Q (nthV xs29 0) H30))
          (pBin EK.other BinOp.add (xs3.getD 0 V.undef) (V.int .i64 1) H27 fun v31 =>
          pWk (List.length H0) [v31] H27 fun xs32 H33 => (I1 xs32 H33) ∧ m2 xs32 H33 < m2 xs3 H4)))
      (pLn false x1 fun v34 =>
      pBin EK.other BinOp.leq v34 (V.int .i64 60) H4 fun v35 =>
      pWk (List.length H0) [v35] H4 fun xs36 H37 => (Q (nthV xs36 0) H37))
def h124 : Nat → Option (List Nat)
  | 2 => some [9]
  | _ => none
theorem c124 {x0 x1 : V} {H0 : Heap} {Q : V → Heap → Prop} (h : t124 x0 x1 H0 Q) : Ct Try.prog 124 [x0, x1] H0 Q :=
  Ct_of_text (fn := Try.f124) h124 (by kernel_rfl) (by kernel_rfl) (by kernel_rfl) (by kernel_rfl) h

def t241 (x0 : V) (H0 : Heap) (Q : V → Heap → Prop) : Prop :=
  pCall Try.prog 139 [x0, (V.int .i64 0), (V.int .i64 1000)] H0 fun v0 H1 =>
  pNot v0 fun v2 =>
  pWk (List.length H0) [v2] H1 fun xs3 H4 => (Q (nthV xs3 0) H4)
def h241 : Nat → Option (List Nat)
  | _ => none
theorem c241 {x0 : V} {H0 : Heap} {Q : V → Heap → Prop} (h : t241 x0 H0 Q) : Ct Try.prog 241 [x0] H0 Q :=
  Ct_of_text (fn := Try.f241) h241 (by kernel_rfl) (by kernel_rfl) (by kernel_rfl) (by kernel_rfl) h

def t242 (x0 x1 : V) (H0 : Heap) (Q : V → Heap → Prop) : Prop :=
  pLn false x0 fun v0 =>
  ∃ (I1 : List V → Heap → Prop) (m2 : List V → Heap → Nat), (pWk (List.length H0) [(V.int .i64 0)] H0 fun xs5 H6 => (I1 xs5 H6)) ∧
    ∀ xs3 H4, I1 xs3 H4 →
    pBin EK.other BinOp.lss (xs3.getD 0 V.undef) v0 H4 fun v7 =>
    cIf v7
      (pIndexAddr 1 x0 (xs3.getD 0 V.undef) H4 fun v8 =>
      pLoad false 1 v8 H4 fun v9 =>
      pCallV Try.prog x1 [v9] H4 fun v10 H11 =>
      cIf v10
        (pWk (List.length H0) [(xs3.getD 0 V.undef)] H11 fun xs12 H13 => (Q (nthV xs12 0) H13))
        (pBin EK.other BinOp.add (xs3.getD 0 V.undef) (V.int .i64 1) H11 fun v14 =>
        pWk (List.length H0) [v14] H11 fun xs15 H16 => (I1 xs15 H16) ∧ m2 xs15 H16 < m2 xs3 H4))
      (pWk (List.length H0) [(V.int .i64 (-1))] H4 fun xs17 H18 => (Q (nthV xs17 0) H18))
def h242 : Nat → Option (List Nat)
  | 2 => some [8]
  | _ => none
theorem c242 {x0 x1 : V} {H0 : Heap} {Q : V → Heap → Prop} (h : t242 x0 x1 H0 Q) : Ct Try.prog 242 [x0, x1] H0 Q :=
  Ct_of_text (fn := Try.f242) h242 (by kernel_rfl) (by kernel_rfl) (by kernel_rfl) (by kernel_rfl) h

def t240 (x0 x1 : V) (H0 : Heap) (Q : V → Heap → Prop) : Prop :=
  pCall Try.prog 242 [x0, x1] H0 fun v0 H1 =>
  pBin EK.other BinOp.geq v0 (V.int .i64 0) H1 fun v2 =>
  pWk (List.length H0) [v2] H1 fun xs3 H4 => (Q (nthV xs3 0) H4)
def h240 : Nat → Option (List Nat)
  | _ => none
theorem c240 {x0 x1 : V} {H0 : Heap} {Q : V → Heap → Prop} (h : t240 x0 x1 H0 Q) : Ct Try.prog 240 [x0, x1] H0 Q :=
  Ct_of_text (fn := Try.f240) h240 (by kernel_rfl) (by kernel_rfl) (by kernel_rfl) (by kernel_rfl) h

def t125 (x0 x1 : V) (H0 : Heap) (Q : V → Heap → Prop) : Prop :=
  pLn false x0 fun v0 =>
  pBin EK.other BinOp.eql v0 x1 H0 fun v1 =>
  cIf v1
    (pCall Try.prog 240 [x0, (V.fn 241 [])] H0 fun v2 H3 =>
    pNot v2 fun v4 =>
    pWk (List.length H0) [v4] H3 fun xs5 H6 => (Q (nthV xs5 0) H6))
    (pWk (List.length H0) [(V.bool false)] H0 fun xs7 H8 => (Q (nthV xs7 0) H8))
def h125 : Nat → Option (List Nat)
  | _ => none
theorem c125 {x0 x1 : V} {H0 : Heap} {Q : V → Heap → Prop} (h : t125 x0 x1 H0 Q) : Ct Try.prog 125 [x0, x1] H0 Q :=
  Ct_of_text (fn := Try.f125) h125 (by kernel_rfl) (by kernel_rfl) (by kernel_rfl) (by kernel_rfl) h

def t232 (x0 : V) (H0 : Heap) (Q : V → Heap → Prop) : Prop :=
  pBin EK.slice BinOp.eql x0 (V.sl false 3 []) H0 fun v0 =>
  cIf v0
    (pWk (List.length H0) [(V.sl false 3 [])] H0 fun xs1 H2 => (Q (nthV xs1 0) H2))
    (pBs 178 3 (V.agg [(V.str ({ data := #[] })), (V.int .i64 0), (V.int .i64 0)]) 0 [] [] H0 fun v3 H4 =>
    pAp 23 178 3 32 (V.agg [(V.str ({ data := #[] })), (V.int .i64 0), (V.int .i64 0)]) v3 x0 H4 fun v5 H6 =>
    pWk (List.length H0) [v5] H6 fun xs7 H8 => (Q (nthV xs7 0) H8))
def h232 : Nat → Option (List Nat)
  | _ => none
theorem c232 {x0 : V} {H0 : Heap} {Q : V → Heap → Prop} (h : t232 x0 H0 Q) : Ct Try.prog 232 [x0] H0 Q :=
  Ct_of_text (fn := Try.f232) h232 (by kernel_rfl) (by kernel_rfl) (by kernel_rfl) (by kernel_rfl) h

def t233 (x0 : V) (H0 : Heap) (Q : V → Heap → Prop) : Prop :=
  pBin EK.slice BinOp.eql x0 (V.sl false 5 []) H0 fun v0 =>
  cIf v0
    (pWk (List.length H0) [(V.sl false 5 [])] H0 fun xs1 H2 => (Q (nthV xs1 0) H2))
    (pBs 40 5 (V.agg [(V.int .i64 0), (V.int .i64 0), (V.int .i64 0), (V.int .i64 0), (V.int .i64 0)]) 0 [] [] H0 fun v3 H4 =>
    pAp 27 40 5 40 (V.agg [(V.int .i64 0), (V.int .i64 0), (V.int .i64 0), (V.int .i64 0), (V.int .i64 0)]) v3 x0 H4 fun v5 H6 =>
    pWk (List.length H0) [v5] H6 fun xs7 H8 => (Q (nthV xs7 0) H8))
def h233 : Nat → Option (List Nat)
  | _ => none
theorem c233 {x0 : V} {H0 : Heap} {Q : V → Heap → Prop} (h : t233 x0 H0 Q) : Ct Try.prog 233 [x0] H0 Q :=
  Ct_of_text (fn := Try.f233) h233 (by kernel_rfl) (by kernel_rfl) (by kernel_rfl) (by kernel_rfl) h

def t137 (x0 : V) (H0 : Heap) (Q : V → Heap → Prop) : Prop :=
  pBin EK.slice BinOp.eql x0 (V.sl false 1 []) H0 fun v0 =>
  cIf v0
    (pWk (List.length H0) [(V.sl false 1 [])] H0 fun xs1 H2 => (Q (nthV xs1 0) H2))
    (pBs 3 1 (V.int .i64 0) 0 [] [] H0 fun v3 H4 =>
    pAp 24 3 1 8 (V.int .i64 0) v3 x0 H4 fun v5 H6 =>
    pWk (List.length H0) [v5] H6 fun xs7 H8 => (Q (nthV xs7 0) H8))
def h137 : Nat → Option (List Nat)
  | _ => none
theorem c137 {x0 : V} {H0 : Heap} {Q : V → Heap → Prop} (h : t137 x0 H0 Q) : Ct Try.prog 137 [x0] H0 Q :=
  Ct_of_text (fn := Try.f137) h137 (by kernel_rfl) (by kernel_rfl) (by kernel_rfl) (by kernel_rfl) h

def t126 (x0 x1 : V) (H0 : Heap) (Q : V → Heap → Prop) : Prop :=
  pCall Try.prog 242 [x0, x1] H0 fun v0 H1 =>
  pBin EK.other BinOp.eql v0 (V.int .i64 (-1)) H1 fun v2 =>
  cIf v2
    (pWk (List.length H0) [x0] H1 fun xs3 H4 => (Q (nthV xs3 0) H4))
    (pBin EK.other BinOp.add v0 (V.int .i64 1) H1 fun v5 =>
    ∃ (I6 : List V → Heap → Prop) (m7 : List V → Heap → Nat), (pWk (List.length H1) [v0, v5] H1 fun xs10 H11 => (I6 xs10 H11)) ∧
      ∀ xs8 H9, I6 xs8 H9 →
      pLn false x0 fun v12 =>
      pBin EK.other BinOp.lss (xs8.getD 1 V.undef) v12 H9 fun v13 =>
      cIf v13
        (pIndexAddr 1 x0 (xs8.getD 1 V.undef) H9 fun v14 =>
        pLoad false 1 v14 H9 fun v15 =>
        pCallV Try.prog x1 [v15] H9 fun v16 H17 =>
        pNot v16 fun v18 =>
        cIf v18
          (pIndexAddr 1 x0 (xs8.getD 0 V.undef) H17 fun v19 =>
          pSt 1 v19 v15 H17 fun H21 =>
          pBin EK.other BinOp.add (xs8.getD 0 V.undef) (V.int .i64 1) H21 fun v23 =>
          pBin EK.other BinOp.add (xs8.getD 1 V.undef) (V.int .i64 1) H21 fun v24 =>
          pWk (List.length H1) [v23, v24] H21 fun xs25 H26 => (I6 xs25 H26) ∧ m7 xs25 H26 < m7 xs8 H9)
          (pBin EK.other BinOp.add (xs8.getD 1 V.undef) (V.int .i64 1) H17 fun v27 =>
          pWk (List.length H1) [(xs8.getD 0 V.undef), v27] H17 fun xs28 H29 => (I6 xs28 H29) ∧ m7 xs28 H29 < m7 xs8 H9))
        (pSc false 1 x0 (some (xs8.getD 0 V.undef)) none H9 fun v30 =>
        pCl 1 (V.int .i64 0) v30 H9 fun _v31 H32 =>
        pSc false 1 x0 none (some (xs8.getD 0 V.undef)) H32 fun v33 =>
        pWk (List.length H0) [v33] H32 fun xs34 H35 => (Q (nthV xs34 0) H35)))
def h126 : Nat → Option (List Nat)
  | 5 => some [5, 6]
  | _ => none
theorem c126 {x0 x1 : V} {H0 : Heap} {Q : V → Heap → Prop} (h : t126 x0 x1 H0 Q) : Ct Try.prog 126 [x0, x1] H0 Q :=
  Ct_of_text (fn := Try.f126) h126 (by kernel_rfl) (by kernel_rfl) (by kernel_rfl) (by kernel_rfl) h

def t127 (x0 : V) (H0 : Heap) (Q : V → Heap → Prop) : Prop :=
  pBs 3 1 (V.int .i64 0) 0 [] [] H0 fun v0 H1 =>
  pMax x0 (V.int .i64 0) fun v2 =>
  ∃ (I3 : List V → Heap → Prop) (m4 : List V → Heap → Nat), (pWk (List.length H1) [v0, (V.int .i64 0)] H1 fun xs7 H8 => (I3 xs7 H8)) ∧
    ∀ xs5 H6, I3 xs5 H6 →
    pBin EK.other BinOp.lss (xs5.getD 1 V.undef) v2 H6 fun v9 =>
    cIf v9
      (pBs 3 1 (V.int .i64 0) 1 [0] [(xs5.getD 1 V.undef)] H6 fun v10 H11 =>
      pAp 24 3 1 8 (V.int .i64 0) (xs5.getD 0 V.undef) v10 H11 fun v12 H13 =>
      pBin EK.other BinOp.add (xs5.getD 1 V.undef) (V.int .i64 1) H13 fun v14 =>
      pWk (List.length H1) [v12, v14] H13 fun xs15 H16 => (I3 xs15 H16) ∧ m4 xs15 H16 < m4 xs5 H6)
      (pWk (List.length H0) [(xs5.getD 0 V.undef)] H6 fun xs17 H18 => (Q (nthV xs17 0) H18))
def h127 : Nat → Option (List Nat)
  | 3 => some [3, 8]
  | _ => none
theorem c127 {x0 : V} {H0 : Heap} {Q : V → Heap → Prop} (h : t127 x0 H0 Q) : Ct Try.prog 127 [x0] H0 Q :=
  Ct_of_text (fn := Try.f127) h127 (by kernel_rfl) (by kernel_rfl) (by kernel_rfl) (by kernel_rfl) h

def t128 (x0 x1 : V) (H0 : Heap) (Q : V → Heap → Prop) : Prop :=
  pLoad true 9 x1 H0 fun v0 =>
  pCall Try.prog 23 [v0, x0] H0 fun v1 H2 =>
  pWk (List.length H0) [v1] H2 fun xs3 H4 => (Q (nthV xs3 0) H4)
def h128 : Nat → Option (List Nat)
  | _ => none
theorem c128 {x0 x1 : V} {H0 : Heap} {Q : V → Heap → Prop} (h : t128 x0 x1 H0 Q) : Ct Try.prog 128 [x0, x1] H0 Q :=
  Ct_of_text (fn := Try.f128) h128 (by kernel_rfl) (by kernel_rfl) (by kernel_rfl) (by kernel_rfl) h

def t129 (x0 x1 x2 : V) (H0 : Heap) (Q : V → Heap → Prop) : Prop :=
  pFa 6 1 x1 fun v0 =>
  pLoad false 1 v0 H0 fun v1 =>
  pIndexAddr 5 v1 x0 H0 fun v2 =>
  pLoad true 5 v2 H0 fun v3 =>
  pFa 6 1 x2 fun v4 =>
  pLoad false 1 v4 H0 fun v5 =>
  pIndexAddr 5 v5 x0 H0 fun v6 =>
  pLoad true 5 v6 H0 fun v7 =>
  pBin (EK.agg [LK.i, LK.i, LK.i, LK.i, LK.i]) BinOp.eql v3 v7 H0 fun v8 =>
  pWk (List.length H0) [v8] H0 fun xs9 H10 => (Q (nthV xs9 0) H10)
def h129 : Nat → Option (List Nat)
  | _ => none
theorem c129 {x0 x1 x2 : V} {H0 : Heap} {Q : V → Heap → Prop} (h : t129 x0 x1 x2 H0 Q) : Ct Try.prog 129 [x0, x1, x2] H0 Q :=
  Ct_of_text (fn := Try.f129) h129 (by kernel_rfl) (by kernel_rfl) (by kernel_rfl) (by kernel_rfl) h

def t243 (x0 x1 x2 x3 : V) (H0 : Heap) (Q : V → Heap → Prop) : Prop :=
  pBox 26 x0 H0 fun v0 H1 =>
  pMk 158 7 56 (V.agg [(V.int .i64 0), (V.int .i64 0), (V.int .i64 0), (V.int .i64 0), (V.int .i64 0), (V.int .i64 0), (V.int .i64 0)]) x1 x1 H1 fun v2 H3 =>
  pLn false x2 fun v4 =>
  ∃ (I5 : List V → Heap → Prop) (m6 : List V → Heap → Nat), (pWk (List.length H3) [(V.int .i64 0)] H3 fun xs9 H10 => (I5 xs9 H10)) ∧
    ∀ xs7 H8, I5 xs7 H8 →
    pBin EK.other BinOp.lss (xs7.getD 0 V.undef) v4 H8 fun v11 =>
    cIf v11
      (pIndexAddr 5 x2 (xs7.getD 0 V.undef) H8 fun v12 =>
      pLoad true 5 v12 H8 fun v13 =>
      pBox 40 (V.agg [(V.int .i64 0), (V.int .i64 0), (V.int .i64 0), (V.int .i64 0), (V.int .i64 0)]) H8 fun v14 H15 =>
      pSt 5 v14 v13 H15 fun H17 =>
      pLoad true 5 v14 H17 fun v19 =>
      pCall Try.prog 187 [v19] H17 fun v20 H21 =>
      pTup v20 0 fun v22 =>
      pTup v20 1 fun v23 =>
      pTup v20 2 fun v24 =>
      pNot v24 fun v25 =>
      cIf v25
        (pBin EK.other BinOp.add (xs7.getD 0 V.undef) (V.int .i64 1) H21 fun v26 =>
        pWk (List.length H3) [v26] H21 fun xs27 H28 => (I5 xs27 H28) ∧ m6 xs27 H28 < m6 xs7 H8)
        (pLoad true 5 v14 H21 fun v29 =>
        pCallV Try.prog x3 [v29] H21 fun v30 H31 =>
        pNot v30 fun v32 =>
        cIf v32
          (pBin EK.other BinOp.add (xs7.getD 0 V.undef) (V.int .i64 1) H31 fun v33 =>
          pWk (List.length H3) [v33] H31 fun xs34 H35 => (I5 xs34 H35) ∧ m6 xs34 H35 < m6 xs7 H8)
          (pFa 0 1 v14 fun v36 =>
          pLoad false 1 v36 H31 fun v37 =>
          pIndexAddr 7 v2 v37 H31 fun v38 =>
          pFa 1 1 v14 fun v39 =>
          pLoad false 1 v39 H31 fun v40 =>
          pIndexAddr 7 v2 v40 H31 fun v41 =>
          pNil v38 fun v42 =>
          pFa 0 1 v42 fun v43 =>
          pLoad false 1 v43 H31 fun v44 =>
          pBin EK.other BinOp.add v44 (V.int .i64 1) H31 fun v45 =>
          pNil v38 fun v46 =>
          pFa 0 1 v46 fun v47 =>
          pSt 1 v47 v45 H31 fun H49 =>
          pNil v41 fun v51 =>
          pFa 0 1 v51 fun v52 =>
          pLoad false 1 v52 H49 fun v53 =>
          pBin EK.other BinOp.add v53 (V.int .i64 1) H49 fun v54 =>
          pNil v41 fun v55 =>
          pFa 0 1 v55 fun v56 =>
          pSt 1 v56 v54 H49 fun H58 =>
          pNil v38 fun v60 =>
          pFa 4 1 v60 fun v61 =>
          pLoad false 1 v61 H58 fun v62 =>
          pBin EK.other BinOp.add v62 v22 H58 fun v63 =>
          pNil v38 fun v64 =>
          pFa 4 1 v64 fun v65 =>
          pSt 1 v65 v63 H58 fun H67 =>
          pNil v38 fun v69 =>
          pFa 5 1 v69 fun v70 =>
          pLoad false 1 v70 H67 fun v71 =>
          pBin EK.other BinOp.add v71 v23 H67 fun v72 =>
          pNil v38 fun v73 =>
          pFa 5 1 v73 fun v74 =>
          pSt 1 v74 v72 H67 fun H76 =>
          pNil v41 fun v78 =>
          pFa 4 1 v78 fun v79 =>
          pLoad false 1 v79 H76 fun v80 =>
          pBin EK.other BinOp.add v80 v23 H76 fun v81 =>
          pNil v41 fun v82 =>
          pFa 4 1 v82 fun v83 =>
          pSt 1 v83 v81 H76 fun H85 =>
          pNil v41 fun v87 =>
          pFa 5 1 v87 fun v88 =>
          pLoad false 1 v88 H85 fun v89 =>
          pBin EK.other BinOp.add v89 v22 H85 fun v90 =>
          pNil v41 fun v91 =>
          pFa 5 1 v91 fun v92 =>
          pSt 1 v92 v90 H85 fun H94 =>
          pBin EK.other BinOp.gtr v22 v23 H94 fun v96 =>
          cIf v96
            (pNil v38 fun v97 =>
            pFa 1 1 v97 fun v98 =>
            pLoad false 1 v98 H94 fun v99 =>
            pBin EK.other BinOp.add v99 (V.int .i64 1) H94 fun v100 =>
            pNil v38 fun v101 =>
            pFa 1 1 v101 fun v102 =>
            pSt 1 v102 v100 H94 fun H104 =>
            pNil v41 fun v106 =>
            pFa 3 1 v106 fun v107 =>
            pLoad false 1 v107 H104 fun v108 =>
            pBin EK.other BinOp.add v108 (V.int .i64 1) H104 fun v109 =>
            pNil v41 fun v110 =>
            pFa 3 1 v110 fun v111 =>
            pSt 1 v111 v109 H104 fun H113 =>
            pNil v38 fun v115 =>
            pFa 6 1 v115 fun v116 =>
            pLoad false 1 v116 H113 fun v117 =>
            pFa 0 1 v0 fun v118 =>
            pLoad false 1 v118 H113 fun v119 =>
            pBin EK.other BinOp.add v117 v119 H113 fun v120 =>
            pNil v38 fun v121 =>
            pFa 6 1 v121 fun v122 =>
            pSt 1 v122 v120 H113 fun H124 =>
            True ∧ pNil v41 fun v126 =>
            pFa 6 1 v126 fun v127 =>
            pLoad false 1 v127 H124 fun v128 =>
            pFa 2 1 v0 fun v129 =>
            pLoad false 1 v129 H124 fun v130 =>
            pBin EK.other BinOp.add v128 v130 H124 fun v131 =>
            pNil v41 fun v132 =>
            pFa 6 1 v132 fun v133 =>
            pSt 1 v133 v131 H124 fun H135 =>
            True ∧ pBin EK.other BinOp.add (xs7.getD 0 V.undef) (V.int .i64 1) H135 fun v137 =>
            pWk (List.length H3) [v137] H135 fun xs138 H139 => (I5 xs138 H139) ∧ m6 xs138 H139 < m6 xs7 H8)
            (pBin EK.other BinOp.lss v22 v23 H94 fun v140 =>
            cIf v140
              (pNil v41 fun v141 =>
              pFa 1 1 v141 fun v142 =>
              pLoad false 1 v142 H94 fun v143 =>
              pBin EK.other BinOp.add v143 (V.int .i64 1) H94 fun v144 =>
              pNil v41 fun v145 =>
              pFa 1 1 v145 fun v146 =>
              pSt 1 v146 v144 H94 fun H148 =>
              pNil v38 fun v150 =>
              pFa 3 1 v150 fun v151 =>
              pLoad false 1 v151 H148 fun v152 =>
              pBin EK.other BinOp.add v152 (V.int .i64 1) H148 fun v153 =>
              pNil v38 fun v154 =>
              pFa 3 1 v154 fun v155 =>
              pSt 1 v155 v153 H148 fun H157 =>
              pNil v41 fun v159 =>
              pFa 6 1 v159 fun v160 =>
              pLoad false 1 v160 H157 fun v161 =>
              pFa 0 1 v0 fun v162 =>
              pLoad false 1 v162 H157 fun v163 =>
              pBin EK.other BinOp.add v161 v163 H157 fun v164 =>
              pNil v41 fun v165 =>
              pFa 6 1 v165 fun v166 =>
              pSt 1 v166 v164 H157 fun H168 =>
              True ∧ pNil v38 fun v170 =>
              pFa 6 1 v170 fun v171 =>
              pLoad false 1 v171 H168 fun v172 =>
              pFa 2 1 v0 fun v173 =>
              pLoad false 1 v173 H168 fun v174 =>
              pBin EK.other BinOp.add v172 v174 H168 fun v175 =>
              pNil v38 fun v176 =>
              pFa 6 1 v176 fun v177 =>
              pSt 1 v177 v175 H168 fun H179 =>
              True ∧ pBin EK.other BinOp.add (xs7.getD 0 V.undef) (V.int .i64 1) H179 fun v181 =>
              pWk (List.length H3) [v181] H179 fun xs182 H183 => (I5 xs182 H183) ∧ m6 xs182 H183 < m6 xs7 H8)
              (pNil v38 fun v184 =>
              pFa 2 1 v184 fun v185 =>
              pLoad false 1 v185 H94 fun v186 =>
              pBin EK.other BinOp.add v186 (V.int .i64 1) H94 fun v187 =>
              pNil v38 fun v188 =>
              pFa 2 1 v188 fun v189 =>
              pSt 1 v189 v187 H94 fun H191 =>
              pNil v41 fun v193 =>
              pFa 2 1 v193 fun v194 =>
              pLoad false 1 v194 H191 fun v195 =>
              pBin EK.other BinOp.add v195 (V.int .i64 1) H191 fun v196 =>
              pNil v41 fun v197 =>
              pFa 2 1 v197 fun v198 =>
              pSt 1 v198 v196 H191 fun H200 =>
              pNil v38 fun v202 =>
              pFa 6 1 v202 fun v203 =>
              pLoad false 1 v203 H200 fun v204 =>
              pFa 1 1 v0 fun v205 =>
              pLoad false 1 v205 H200 fun v206 =>
              pBin EK.other BinOp.add v204 v206 H200 fun v207 =>
              pNil v38 fun v208 =>
              pFa 6 1 v208 fun v209 =>
              pSt 1 v209 v207 H200 fun H211 =>
              True ∧ pNil v41 fun v213 =>
              pFa 6 1 v213 fun v214 =>
              pLoad false 1 v214 H211 fun v215 =>
              pFa 1 1 v0 fun v216 =>
              pLoad false 1 v216 H211 fun v217 =>
              pBin EK.other BinOp.add v215 v217 H211 fun v218 =>
              pNil v41 fun v219 =>
              pFa 6 1 v219 fun v220 =>
              pSt 1 v220 v218 H211 fun H222 =>
              True ∧ pBin EK.other BinOp.add (xs7.getD 0 V.undef) (V.int .i64 1) H222 fun v224 =>
              pWk (List.length H3) [v224] H222 fun xs225 H226 => (I5 xs225 H226) ∧ m6 xs225 H226 < m6 xs7 H8)))))
      (pWk (List.length H0) [v2] H8 fun xs227 H228 => (Q (nthV xs227 0) H228))
def h243 : Nat → Option (List Nat)
  | 3 => some [21]
  | _ => none
theorem c243 {x0 x1 x2 x3 : V} {H0 : Heap} {Q : V → Heap → Prop} (h : t243 x0 x1 x2 x3 H0 Q) : Ct Try.prog 243 [x0, x1, x2, x3] H0 Q :=
  Ct_of_text (fn := Try.f243) h243 (by kernel_rfl) (by kernel_rfl) (by kernel_rfl) (by kernel_rfl) h

def t244 (x0 : V) (H0 : Heap) (Q : V → Heap → Prop) : Prop :=
  pBox 40 x0 H0 fun _v0 H1 =>
  pWk (List.length H0) [(V.bool true)] H1 fun xs2 H3 => (Q (nthV xs2 0) H3)
def h244 : Nat → Option (List Nat)
  | _ => none
theorem c244 {x0 : V} {H0 : Heap} {Q : V → Heap → Prop} (h : t244 x0 H0 Q) : Ct Try.prog 244 [x0] H0 Q :=
  Ct_of_text (fn := Try.f244) h244 (by kernel_rfl) (by kernel_rfl) (by kernel_rfl) (by kernel_rfl) h

def t130 (x0 : V) (H0 : Heap) (Q : V → Heap → Prop) : Prop :=
  pBox 29 x0 H0 fun v0 H1 =>
  pBox 155 (V.agg [(V.sl false 3 []), (V.int .i64 0), (V.int .i64 0), (V.int .i64 0), (V.sl false 1 []), (V.bool false), (V.sl false 5 []), (V.sl false 1 []), (V.sl false 1 []), (V.sl false 7 [])]) H1 fun v2 H3 =>
  pLoad true 9 v0 H3 fun v4 =>
  pFa 1 5 v0 fun v5 =>
  pLoad true 5 v5 H3 fun v6 =>
  pFa 0 1 v0 fun v7 =>
  pLoad false 1 v7 H3 fun v8 =>
  pLn false v8 fun v9 =>
  pFa 6 1 v0 fun v10 =>
  pLoad false 1 v10 H3 fun v11 =>
  pCall Try.prog 243 [v6, v9, v11, (V.fn 244 [])] H3 fun v12 H13 =>
  (keepV v0 H3 H13 ∧ True) ∧ pBuild [(V.sl false 3 []), (V.int .i64 0), (V.int .i64 0), (V.int .i64 0), (V.sl false 1 []), (V.bool false), (V.sl false 5 []), (V.sl false 1 []), (V.sl false 1 []), (V.sl false 7 [])] [(.mk 0 (.mk 9 v4)), (.mk 9 (.mk 1 v12))] fun v14 =>
  pSt 10 v2 v14 H13 fun H16 =>
  True ∧ pLoad true 10 v2 H16 fun v18 =>
  pWk (List.length H0) [v18] H16 fun xs19 H20 => (Q (nthV xs19 0) H20)
def h130 : Nat → Option (List Nat)
  | _ => none
theorem c130 {x0 : V} {H0 : Heap} {Q : V → Heap → Prop} (h : t130 x0 H0 Q) : Ct Try.prog 130 [x0] H0 Q :=
  Ct_of_text (fn := Try.f130) h130 (by kernel_rfl) (by kernel_rfl) (by kernel_rfl) (by kernel_rfl) h

def t260 (x0 x1 : V) (H0 : Heap) (Q : V → Heap → Prop) : Prop :=
  pCall Try.prog 115 [x0, x1] H0 fun v0 H1 =>
  pBin EK.other BinOp.eql v0 (V.int .i64 0) H1 fun v2 =>
  pWk (List.length H0) [v2] H1 fun xs3 H4 => (Q (nthV xs3 0) H4)
def h260 : Nat → Option (List Nat)
  | _ => none
theorem c260 {x0 x1 : V} {H0 : Heap} {Q : V → Heap → Prop} (h : t260 x0 x1 H0 Q) : Ct Try.prog 260 [x0, x1] H0 Q :=
  Ct_of_text (fn := Try.f260) h260 (by kernel_rfl) (by kernel_rfl) (by kernel_rfl) (by kernel_rfl) h

def t231 (x0 x1 : V) (H0 : Heap) (Q : V → Heap → Prop) : Prop :=
  pLn false x1 fun v0 =>
  pCall Try.prog 115 [x0, v0] H0 fun v1 H2 =>
  pIndexAddr 1 x1 v1 H2 fun v3 =>
  pLoad false 1 v3 H2 fun v4 =>
  pWk (List.length H0) [v4] H2 fun xs5 H6 => (Q (nthV xs5 0) H6)
def h231 : Nat → Option (List Nat)
  | _ => none
theorem c231 {x0 x1 : V} {H0 : Heap} {Q : V → Heap → Prop} (h : t231 x0 x1 H0 Q) : Ct Try.prog 231 [x0, x1] H0 Q :=
  Ct_of_text (fn := Try.f231) h231 (by kernel_rfl) (by kernel_rfl) (by kernel_rfl) (by kernel_rfl) h

def t228 (x0 x1 : V) (H0 : Heap) (Q : V → Heap → Prop) : Prop :=
  pBs 178 3 (V.agg [(V.str ({ data := #[] })), (V.int .i64 0), (V.int .i64 0)]) 0 [] [] H0 fun v0 H1 =>
  pCall Try.prog 115 [x0, x1] H1 fun v2 H3 =>
  ∃ (I4 : List V → Heap → Prop) (m5 : List V → Heap → Nat), (pWk (List.length H3) [v0, (V.int .i64 0)] H3 fun xs8 H9 => (I4 xs8 H9)) ∧
    ∀ xs6 H7, I4 xs6 H7 →
    pBin EK.other BinOp.lss (xs6.getD 1 V.undef) x1 H7 fun v10 =>
    cIf v10
      (pBin EK.other BinOp.add (xs6.getD 1 V.undef) v2 H7 fun v11 =>
      pBin EK.other BinOp.rem v11 x1 H7 fun v12 =>
      pBin EK.other BinOp.add v12 (V.int .i64 1) H7 fun v13 =>
      pCall Try.prog 277 [(xs6.getD 1 V.undef)] H7 fun v14 H15 =>
      (keepV v12 H7 H15 ∧ (keepV (V.int .i64 1) H7 H15 ∧ (keepV v11 H7 H15 ∧ (keepV x1 H7 H15 ∧ (keepV (xs6.getD 1 V.undef) H7 H15 ∧ (keepV v2 H7 H15 ∧ True)))))) ∧ pBin EK.other BinOp.add (V.str ({ data := #[116] })) v14 H15 fun v16 =>
      pCall Try.prog 115 [x0, (V.int .i64 4)] H15 fun v17 H18 =>
      (keepV (V.str ({ data := #[116] })) H15 H18 ∧ (keepV v14 H15 H18 ∧ (keepV v12 H15 H18 ∧ (keepV (V.int .i64 1) H15 H18 ∧ (keepV v11 H15 H18 ∧ (keepV x1 H15 H18 ∧ (keepV (xs6.getD 1 V.undef) H15 H18 ∧ (keepV v2 H15 H18 ∧ True)))))))) ∧ pBuild [(V.str ({ data := #[] })), (V.int .i64 0), (V.int .i64 0)] [(.mk 0 (.mk 1 v16)), (.mk 1 (.mk 1 v17)), (.mk 2 (.mk 1 v13))] fun v19 =>
      pBs 178 3 (V.agg [(V.str ({ data := #[] })), (V.int .i64 0), (V.int .i64 0)]) 1 [0] [v19] H18 fun v20 H21 =>
      True ∧ pAp 23 178 3 32 (V.agg [(V.str ({ data := #[] })), (V.int .i64 0), (V.int .i64 0)]) (xs6.getD 0 V.undef) v20 H21 fun v22 H23 =>
      True ∧ pBin EK.other BinOp.add (xs6.getD 1 V.undef) (V.int .i64 1) H23 fun v24 =>
      pWk (List.length H3) [v22, v24] H23 fun xs25 H26 => (I4 xs25 H26) ∧ m5 xs25 H26 < m5 xs6 H7)
      (pWk (List.length H0) [(xs6.getD 0 V.undef)] H7 fun xs27 H28 => (Q (nthV xs27 0) H28))
def h228 : Nat → Option (List Nat)
  | 4 => some [5, 7]
  | _ => none
theorem c228 {x0 x1 : V} {H0 : Heap} {Q : V → Heap → Prop} (h : t228 x0 x1 H0 Q) : Ct Try.prog 228 [x0, x1] H0 Q :=
  Ct_of_text (fn := Try.f228) h228 (by kernel_rfl) (by kernel_rfl) (by kernel_rfl) (by kernel_rfl) h

def t217 (x0 x1 : V) (H0 : Heap) (Q : V → Heap → Prop) : Prop :=
  pLn false x0 fun v0 =>
  ∃ (I1 : List V → Heap → Prop) (m2 : List V → Heap → Nat), (pWk (List.length H0) [(V.int .i64 0)] H0 fun xs5 H6 => (I1 xs5 H6)) ∧
    ∀ xs3 H4, I1 xs3 H4 →
    pBin EK.other BinOp.lss (xs3.getD 0 V.undef) v0 H4 fun v7 =>
    cIf v7
      (pIndexAddr 1 x0 (xs3.getD 0 V.undef) H4 fun v8 =>
      pLoad false 1 v8 H4 fun v9 =>
      pBin EK.other BinOp.eql v9 x1 H4 fun v10 =>
      cIf v10
        (pWk (List.length H0) [(V.bool true)] H4 fun xs11 H12 => (Q (nthV xs11 0) H12))
        (pBin EK.other BinOp.add (xs3.getD 0 V.undef) (V.int .i64 1) H4 fun v13 =>
        pWk (List.length H0) [v13] H4 fun xs14 H15 => (I1 xs14 H15) ∧ m2 xs14 H15 < m2 xs3 H4))
      (pWk (List.length H0) [(V.bool false)] H4 fun xs16 H17 => (Q (nthV xs16 0) H17))
def h217 : Nat → Option (List Nat)
  | 2 => some [9]
  | _ => none
theorem c217 {x0 x1 : V} {H0 : Heap} {Q : V → Heap → Prop} (h : t217 x0 x1 H0 Q) : Ct Try.prog 217 [x0, x1] H0 Q :=
  Ct_of_text (fn := Try.f217) h217 (by kernel_rfl) (by kernel_rfl) (by kernel_rfl) (by kernel_rfl) h

def t229 (x0 : V) (H0 : Heap) (Q : V → Heap → Prop) : Prop :=
  pBox 26 (V.agg [(V.int .i64 0), (V.int .i64 0), (V.int .i64 0), (V.sl false 1 []), (V.bool false)]) H0 fun v0 H1 =>
  pCall Try.prog 115 [x0, (V.int .i64 2)] H1 fun v2 H3 =>
  pBin EK.other BinOp.add (V.int .i64 2) v2 H3 fun v4 =>
  pCall Try.prog 260 [x0, (V.int .i64 2)] H3 fun v5 H6 =>
  pBs 3 1 (V.int .i64 0) 1 [0] [(V.int .i64 1)] H6 fun v7 H8 =>
  pBuild [(V.int .i64 0), (V.int .i64 0), (V.int .i64 0), (V.sl false 1 []), (V.bool false)] [(.mk 0 (.mk 1 v4)), (.mk 1 (.mk 1 (V.int .i64 1))), (.mk 4 (.mk 1 v5)), (.mk 3 (.mk 1 v7))] fun v9 =>
  pBox 26 (V.agg [(V.int .i64 0), (V.int .i64 0), (V.int .i64 0), (V.sl false 1 []), (V.bool false)]) H8 fun v10 H11 =>
  pSt 5 v10 v9 H11 fun H13 =>
  pCall Try.prog 115 [x0, (V.int .i64 4)] H13 fun v15 H16 =>
  ∃ (I17 : List V → Heap → Prop) (m18 : List V → Heap → Nat), (pWk (List.length H16) [v15] H16 fun xs21 H22 => (I17 xs21 H22)) ∧
    ∀ xs19 H20, I17 xs19 H20 →
    pBin EK.other BinOp.gtr (xs19.getD 0 V.undef) (V.int .i64 0) H20 fun v23 =>
    cIf v23
      (pCall Try.prog 115 [x0, (V.int .i64 6)] H20 fun v24 H25 =>
      pBin EK.other BinOp.add (V.int .i64 2) v24 H25 fun v26 =>
      pFa 3 1 v10 fun v27 =>
      pLoad false 1 v27 H25 fun v28 =>
      pCall Try.prog 217 [v28, v26] H25 fun v29 H30 =>
      pNot v29 fun v31 =>
      cIf v31
        (pFa 3 1 v10 fun v32 =>
        pLoad false 1 v32 H30 fun v33 =>
        pBs 3 1 (V.int .i64 0) 1 [0] [v26] H30 fun v34 H35 =>
        pAp 24 3 1 8 (V.int .i64 0) v33 v34 H35 fun v36 H37 =>
        pFa 3 1 v10 fun v38 =>
        pSt 1 v38 v36 H37 fun H40 =>
        pBin EK.other BinOp.sub (xs19.getD 0 V.undef) (V.int .i64 1) H40 fun v42 =>
        pWk (List.length H16) [v42] H40 fun xs43 H44 => (I17 xs43 H44) ∧ m18 xs43 H44 < m18 xs19 H20)
        (pBin EK.other BinOp.sub (xs19.getD 0 V.undef) (V.int .i64 1) H30 fun v45 =>
        pWk (List.length H16) [v45] H30 fun xs46 H47 => (I17 xs46 H47) ∧ m18 xs46 H47 < m18 xs19 H20))
      (pFa 3 1 v10 fun v48 =>
      pLoad false 1 v48 H20 fun v49 =>
      pBs 3 1 (V.int .i64 0) 1 [0] [(V.int .i64 8)] H20 fun v50 H51 =>
      pAp 24 3 1 8 (V.int .i64 0) v49 v50 H51 fun v52 H53 =>
      pFa 3 1 v10 fun v54 =>
      pSt 1 v54 v52 H53 fun H56 =>
      pLoad true 5 v10 H56 fun v58 =>
      pSt 5 v0 v58 H56 fun H60 =>
      pLoad true 5 v0 H60 fun v62 =>
      pWk (List.length H0) [v62] H60 fun xs63 H64 => (Q (nthV xs63 0) H64))
def h229 : Nat → Option (List Nat)
  | 3 => some [4]
  | _ => none
theorem c229 {x0 : V} {H0 : Heap} {Q : V → Heap → Prop} (h : t229 x0 H0 Q) : Ct Try.prog 229 [x0] H0 Q :=
  Ct_of_text (fn := Try.f229) h229 (by kernel_rfl) (by kernel_rfl) (by kernel_rfl) (by kernel_rfl) h

def t230 (x0 x1 x2 : V) (H0 : Heap) (Q : V → Heap → Prop) : Prop :=
  pBs 40 5 (V.agg [(V.int .i64 0), (V.int .i64 0), (V.int .i64 0), (V.int .i64 0), (V.int .i64 0)]) 0 [] [] H0 fun v0 H1 =>
  ∃ (I2 : List V → Heap → Prop) (m3 : List V → Heap → Nat), (pWk (List.length H1) [x2, v0, (V.int .i64 1)] H1 fun xs6 H7 => (I2 xs6 H7)) ∧
    ∀ xs4 H5, I2 xs4 H5 →
    pBin EK.other BinOp.lss (xs4.getD 2 V.undef) x1 H5 fun v8 =>
    cIf v8
      (∃ (I9 : List V → Heap → Prop) (m10 : List V → Heap → Nat), (pWk (List.length H5) [(xs4.getD 0 V.undef), (xs4.getD 1 V.undef), (V.int .i64 0)] H5 fun xs13 H14 => (I9 xs13 H14)) ∧
        ∀ xs11 H12, I9 xs11 H12 →
        pBin EK.other BinOp.lss (xs11.getD 2 V.undef) (xs4.getD 2 V.undef) H12 fun v15 =>
        cIf v15
          (pBuild [(V.int .i64 0), (V.int .i64 0), (V.int .i64 0), (V.int .i64 0), (V.int .i64 0)] [(.mk 0 (.mk 1 (xs11.getD 2 V.undef))), (.mk 1 (.mk 1 (xs4.getD 2 V.undef)))] fun v16 =>
          pBox 40 (V.agg [(V.int .i64 0), (V.int .i64 0), (V.int .i64 0), (V.int .i64 0), (V.int .i64 0)]) H12 fun v17 H18 =>
          pSt 5 v17 v16 H18 fun H20 =>
          pCall Try.prog 260 [x0, (V.int .i64 2)] H20 fun v22 H23 =>
          cIf v22
            (pBuild [(V.int .i64 0), (V.int .i64 0), (V.int .i64 0), (V.int .i64 0), (V.int .i64 0)] [(.mk 0 (.mk 1 (xs4.getD 2 V.undef))), (.mk 1 (.mk 1 (xs11.getD 2 V.undef)))] fun v24 =>
            pSt 5 v17 v24 H23 fun H26 =>
            pBin EK.other BinOp.gtr (xs11.getD 0 V.undef) (V.int .i64 0) H26 fun v28 =>
            cIf v28
              (pCall Try.prog 260 [x0, (V.int .i64 3)] H26 fun v29 H30 =>
              cIf v29
                (pBin EK.other BinOp.sub (xs11.getD 0 V.undef) (V.int .i64 1) H30 fun v31 =>
                pFa 4 1 v17 fun v32 =>
                pLoad false 1 v32 H30 fun v33 =>
                pBin EK.other BinOp.eql v33 (V.int .i64 1) H30 fun v34 =>
                cIf v34
                  (pCall Try.prog 115 [x0, (V.int .i64 4)] H30 fun v35 H36 =>
                  pFa 2 1 v17 fun v37 =>
                  pSt 1 v37 v35 H36 fun H39 =>
                  pCall Try.prog 115 [x0, (V.int .i64 4)] H39 fun v41 H42 =>
                  pFa 3 1 v17 fun v43 =>
                  pSt 1 v43 v41 H42 fun H45 =>
                  pLoad true 5 v17 H45 fun v47 =>
                  pBs 40 5 (V.agg [(V.int .i64 0), (V.int .i64 0), (V.int .i64 0), (V.int .i64 0), (V.int .i64 0)]) 1 [0] [v47] H45 fun v48 H49 =>
                  pAp 27 40 5 40 (V.agg [(V.int .i64 0), (V.int .i64 0), (V.int .i64 0), (V.int .i64 0), (V.int .i64 0)]) (xs11.getD 1 V.undef) v48 H49 fun v50 H51 =>
                  pBin EK.other BinOp.add (xs11.getD 2 V.undef) (V.int .i64 1) H51 fun v52 =>
                  pWk (List.length H5) [v31, v50, v52] H51 fun xs53 H54 => (I9 xs53 H54) ∧ m10 xs53 H54 < m10 xs11 H12)
                  (pLoad true 5 v17 H30 fun v55 =>
                  pBs 40 5 (V.agg [(V.int .i64 0), (V.int .i64 0), (V.int .i64 0), (V.int .i64 0), (V.int .i64 0)]) 1 [0] [v55] H30 fun v56 H57 =>
                  pAp 27 40 5 40 (V.agg [(V.int .i64 0), (V.int .i64 0), (V.int .i64 0), (V.int .i64 0), (V.int .i64 0)]) (xs11.getD 1 V.undef) v56 H57 fun v58 H59 =>
                  pBin EK.other BinOp.add (xs11.getD 2 V.undef) (V.int .i64 1) H59 fun v60 =>
                  pWk (List.length H5) [v31, v58, v60] H59 fun xs61 H62 => (I9 xs61 H62) ∧ m10 xs61 H62 < m10 xs11 H12))
                (pBs 3 1 (V.int .i64 0) 9 [0, 1, 2, 3, 4, 5, 6, 7, 8] [(V.int .i64 1), (V.int .i64 1), (V.int .i64 1), (V.int .i64 1), (V.int .i64 1), (V.int .i64 1), (V.int .i64 2), (V.int .i64 3), (V.int .i64 4)] H30 fun v63 H64 =>
                pCall Try.prog 231 [x0, v63] H64 fun v65 H66 =>
                pFa 4 1 v17 fun v67 =>
                pSt 1 v67 v65 H66 fun H69 =>
                pFa 4 1 v17 fun v71 =>
                pLoad false 1 v71 H69 fun v72 =>
                pBin EK.other BinOp.eql v72 (V.int .i64 1) H69 fun v73 =>
                cIf v73
                  (pCall Try.prog 115 [x0, (V.int .i64 4)] H69 fun v74 H75 =>
                  pFa 2 1 v17 fun v76 =>
                  pSt 1 v76 v74 H75 fun H78 =>
                  pCall Try.prog 115 [x0, (V.int .i64 4)] H78 fun v80 H81 =>
                  pFa 3 1 v17 fun v82 =>
                  pSt 1 v82 v80 H81 fun H84 =>
                  pLoad true 5 v17 H84 fun v86 =>
                  pBs 40 5 (V.agg [(V.int .i64 0), (V.int .i64 0), (V.int .i64 0), (V.int .i64 0), (V.int .i64 0)]) 1 [0] [v86] H84 fun v87 H88 =>
                  pAp 27 40 5 40 (V.agg [(V.int .i64 0), (V.int .i64 0), (V.int .i64 0), (V.int .i64 0), (V.int .i64 0)]) (xs11.getD 1 V.undef) v87 H88 fun v89 H90 =>
                  pBin EK.other BinOp.add (xs11.getD 2 V.undef) (V.int .i64 1) H90 fun v91 =>
                  pWk (List.length H5) [(xs11.getD 0 V.undef), v89, v91] H90 fun xs92 H93 => (I9 xs92 H93) ∧ m10 xs92 H93 < m10 xs11 H12)
                  (pLoad true 5 v17 H69 fun v94 =>
                  pBs 40 5 (V.agg [(V.int .i64 0), (V.int .i64 0), (V.int .i64 0), (V.int .i64 0), (V.int .i64 0)]) 1 [0] [v94] H69 fun v95 H96 =>
                  pAp 27 40 5 40 (V.agg [(V.int .i64 0), (V.int .i64 0), (V.int .i64 0), (V.int .i64 0), (V.int .i64 0)]) (xs11.getD 1 V.undef) v95 H96 fun v97 H98 =>
                  pBin EK.other BinOp.add (xs11.getD 2 V.undef) (V.int .i64 1) H98 fun v99 =>
                  pWk (List.length H5) [(xs11.getD 0 V.undef), v97, v99] H98 fun xs100 H101 => (I9 xs100 H101) ∧ m10 xs100 H101 < m10 xs11 H12)))
              (pBs 3 1 (V.int .i64 0) 9 [0, 1, 2, 3, 4, 5, 6, 7, 8] [(V.int .i64 1), (V.int .i64 1), (V.int .i64 1), (V.int .i64 1), (V.int .i64 1), (V.int .i64 1), (V.int .i64 2), (V.int .i64 3), (V.int .i64 4)] H26 fun v102 H103 =>
              pCall Try.prog 231 [x0, v102] H103 fun v104 H105 =>
              pFa 4 1 v17 fun v106 =>
              pSt 1 v106 v104 H105 fun H108 =>
              pFa 4 1 v17 fun v110 =>
              pLoad false 1 v110 H108 fun v111 =>
              pBin EK.other BinOp.eql v111 (V.int .i64 1) H108 fun v112 =>
              cIf v112
                (pCall Try.prog 115 [x0, (V.int .i64 4)] H108 fun v113 H114 =>
                pFa 2 1 v17 fun v115 =>
                pSt 1 v115 v113 H114 fun H117 =>
                pCall Try.prog 115 [x0, (V.int .i64 4)] H117 fun v119 H120 =>
                pFa 3 1 v17 fun v121 =>
                pSt 1 v121 v119 H120 fun H123 =>
                pLoad true 5 v17 H123 fun v125 =>
                pBs 40 5 (V.agg [(V.int .i64 0), (V.int .i64 0), (V.int .i64 0), (V.int .i64 0), (V.int .i64 0)]) 1 [0] [v125] H123 fun v126 H127 =>
                pAp 27 40 5 40 (V.agg [(V.int .i64 0), (V.int .i64 0), (V.int .i64 0), (V.int .i64 0), (V.int .i64 0)]) (xs11.getD 1 V.undef) v126 H127 fun v128 H129 =>
                pBin EK.other BinOp.add (xs11.getD 2 V.undef) (V.int .i64 1) H129 fun v130 =>
                pWk (List.length H5) [(xs11.getD 0 V.undef), v128, v130] H129 fun xs131 H132 => (I9 xs131 H132) ∧ m10 xs131 H132 < m10 xs11 H12)
                (pLoad true 5 v17 H108 fun v133 =>
                pBs 40 5 (V.agg [(V.int .i64 0), (V.int .i64 0), (V.int .i64 0), (V.int .i64 0), (V.int .i64 0)]) 1 [0] [v133] H108 fun v134 H135 =>
                pAp 27 40 5 40 (V.agg [(V.int .i64 0), (V.int .i64 0), (V.int .i64 0), (V.int .i64 0), (V.int .i64 0)]) (xs11.getD 1 V.undef) v134 H135 fun v136 H137 =>
                pBin EK.other BinOp.add (xs11.getD 2 V.undef) (V.int .i64 1) H137 fun v138 =>
                pWk (List.length H5) [(xs11.getD 0 V.undef), v136, v138] H137 fun xs139 H140 => (I9 xs139 H140) ∧ m10 xs139 H140 < m10 xs11 H12)))
            (pBin EK.other BinOp.gtr (xs11.getD 0 V.undef) (V.int .i64 0) H23 fun v141 =>
            cIf v141
              (pCall Try.prog 260 [x0, (V.int .i64 3)] H23 fun v142 H143 =>
              cIf v142
                (pBin EK.other BinOp.sub (xs11.getD 0 V.undef) (V.int .i64 1) H143 fun v144 =>
                pFa 4 1 v17 fun v145 =>
                pLoad false 1 v145 H143 fun v146 =>
                pBin EK.other BinOp.eql v146 (V.int .i64 1) H143 fun v147 =>
                cIf v147
                  (pCall Try.prog 115 [x0, (V.int .i64 4)] H143 fun v148 H149 =>
                  pFa 2 1 v17 fun v150 =>
                  pSt 1 v150 v148 H149 fun H152 =>
                  pCall Try.prog 115 [x0, (V.int .i64 4)] H152 fun v154 H155 =>
                  pFa 3 1 v17 fun v156 =>
                  pSt 1 v156 v154 H155 fun H158 =>
                  pLoad true 5 v17 H158 fun v160 =>
                  pBs 40 5 (V.agg [(V.int .i64 0), (V.int .i64 0), (V.int .i64 0), (V.int .i64 0), (V.int .i64 0)]) 1 [0] [v160] H158 fun v161 H162 =>
                  pAp 27 40 5 40 (V.agg [(V.int .i64 0), (V.int .i64 0), (V.int .i64 0), (V.int .i64 0), (V.int .i64 0)]) (xs11.getD 1 V.undef) v161 H162 fun v163 H164 =>
                  pBin EK.other BinOp.add (xs11.getD 2 V.undef) (V.int .i64 1) H164 fun v165 =>
                  pWk (List.length H5) [v144, v163, v165] H164 fun xs166 H167 => (I9 xs166 H167) ∧ m10 xs166 H167 < m10 xs11 H12)
                  (pLoad true 5 v17 H143 fun v168 =>
                  pBs 40 5 (V.agg [(V.int .i64 0), (V.int .i64 0), (V.int .i64 0), (V.int .i64 0), (V.int .i64 0)]) 1 [0] [v168] H143 fun v169 H170 =>
                  pAp 27 40 5 40 (V.agg [(V.int .i64 0), (V.int .i64 0), (V.int .i64 0), (V.int .i64 0), (V.int .i64 0)]) (xs11.getD 1 V.undef) v169 H170 fun v171 H172 =>
                  pBin EK.other BinOp.add (xs11.getD 2 V.undef) (V.int .i64 1) H172 fun v173 =>
                  pWk (List.length H5) [v144, v171, v173] H172 fun xs174 H175 => (I9 xs174 H175) ∧ m10 xs174 H175 < m10 xs11 H12))
                (pBs 3 1 (V.int .i64 0) 9 [0, 1, 2, 3, 4, 5, 6, 7, 8] [(V.int .i64 1), (V.int .i64 1), (V.int .i64 1), (V.int .i64 1), (V.int .i64 1), (V.int .i64 1), (V.int .i64 2), (V.int .i64 3), (V.int .i64 4)] H143 fun v176 H177 =>
                pCall Try.prog 231 [x0, v176] H177 fun v178 H179 =>
                pFa 4 1 v17 fun v180 =>
                pSt 1 v180 v178 H179 fun H182 =>
                pFa 4 1 v17 fun v184 =>
                pLoad false 1 v184 H182 fun v185 =>
                pBin EK.other BinOp.eql v185 (V.int .i64 1) H182 fun v186 =>
                cIf v186
                  (pCall Try.prog 115 [x0, (V.int .i64 4)] H182 fun v187 H188 =>
                  pFa 2 1 v17 fun v189 =>
                  pSt 1 v189 v187 H188 fun H191 =>
                  pCall Try.prog 115 [x0, (V.int .i64 4)] H191 fun v193 H194 =>
                  pFa 3 1 v17 fun v195 =>
                  pSt 1 v195 v193 H194 fun H197 =>
                  pLoad true 5 v17 H197 fun v199 =>
                  pBs 40 5 (V.agg [(V.int .i64 0), (V.int .i64 0), (V.int .i64 0), (V.int .i64 0), (V.int .i64 0)]) 1 [0] [v199] H197 fun v200 H201 =>
                  pAp 27 40 5 40 (V.agg [(V.int .i64 0), (V.int .i64 0), (V.int .i64 0), (V.int .i64 0), (V.int .i64 0)]) (xs11.getD 1 V.undef) v200 H201 fun v202 H203 =>
                  pBin EK.other BinOp.add (xs11.getD 2 V.undef) (V.int .i64 1) H203 fun v204 =>
                  pWk (List.length H5) [(xs11.getD 0 V.undef), v202, v204] H203 fun xs205 H206 => (I9 xs205 H206) ∧ m10 xs205 H206 < m10 xs11 H12)
                  (pLoad true 5 v17 H182 fun v207 =>
                  pBs 40 5 (V.agg [(V.int .i64 0), (V.int .i64 0), (V.int .i64 0), (V.int .i64 0), (V.int .i64 0)]) 1 [0] [v207] H182 fun v208 H209 =>
                  pAp 27 40 5 40 (V.agg [(V.int .i64 0), (V.int .i64 0), (V.int .i64 0), (V.int .i64 0), (V.int .i64 0)]) (xs11.getD 1 V.undef) v208 H209 fun v210 H211 =>
                  pBin EK.other BinOp.add (xs11.getD 2 V.undef) (V.int .i64 1) H211 fun v212 =>
                  pWk (List.length H5) [(xs11.getD 0 V.undef), v210, v212] H211 fun xs213 H214 => (I9 xs213 H214) ∧ m10 xs213 H214 < m10 xs11 H12)))
              (pBs 3 1 (V.int .i64 0) 9 [0, 1, 2, 3, 4, 5, 6, 7, 8] [(V.int .i64 1), (V.int .i64 1), (V.int .i64 1), (V.int .i64 1), (V.int .i64 1), (V.int .i64 1), (V.int .i64 2), (V.int .i64 3), (V.int .i64 4)] H23 fun v215 H216 =>
              pCall Try.prog 231 [x0, v215] H216 fun v217 H218 =>
              pFa 4 1 v17 fun v219 =>
              pSt 1 v219 v217 H218 fun H221 =>
              pFa 4 1 v17 fun v223 =>
              pLoad false 1 v223 H221 fun v224 =>
              pBin EK.other BinOp.eql v224 (V.int .i64 1) H221 fun v225 =>
              cIf v225
                (pCall Try.prog 115 [x0, (V.int .i64 4)] H221 fun v226 H227 =>
                pFa 2 1 v17 fun v228 =>
                pSt 1 v228 v226 H227 fun H230 =>
                pCall Try.prog 115 [x0, (V.int .i64 4)] H230 fun v232 H233 =>
                pFa 3 1 v17 fun v234 =>
                pSt 1 v234 v232 H233 fun H236 =>
                pLoad true 5 v17 H236 fun v238 =>
                pBs 40 5 (V.agg [(V.int .i64 0), (V.int .i64 0), (V.int .i64 0), (V.int .i64 0), (V.int .i64 0)]) 1 [0] [v238] H236 fun v239 H240 =>
                pAp 27 40 5 40 (V.agg [(V.int .i64 0), (V.int .i64 0), (V.int .i64 0), (V.int .i64 0), (V.int .i64 0)]) (xs11.getD 1 V.undef) v239 H240 fun v241 H242 =>
                pBin EK.other BinOp.add (xs11.getD 2 V.undef) (V.int .i64 1) H242 fun v243 =>
                pWk (List.length H5) [(xs11.getD 0 V.undef), v241, v243] H242 fun xs244 H245 => (I9 xs244 H245) ∧ m10 xs244 H245 < m10 xs11 H12)
                (pLoad true 5 v17 H221 fun v246 =>
                pBs 40 5 (V.agg [(V.int .i64 0), (V.int .i64 0), (V.int .i64 0), (V.int .i64 0), (V.int .i64 0)]) 1 [0] [v246] H221 fun v247 H248 =>
                pAp 27 40 5 40 (V.agg [(V.int .i64 0), (V.int .i64 0), (V.int .i64 0), (V.int .i64 0), (V.int .i64 0)]) (xs11.getD 1 V.undef) v247 H248 fun v249 H250 =>
                pBin EK.other BinOp.add (xs11.getD 2 V.undef) (V.int .i64 1) H250 fun v251 =>
                pWk (List.length H5) [(xs11.getD 0 V.undef), v249, v251] H250 fun xs252 H253 => (I9 xs252 H253) ∧ m10 xs252 H253 < m10 xs11 H12))))
          (pBin EK.other BinOp.add (xs4.getD 2 V.undef) (V.int .i64 1) H12 fun v254 =>
          pWk (List.length H1) [(xs11.getD 0 V.undef), (xs11.getD 1 V.undef), v254] H12 fun xs255 H256 => (I2 xs255 H256) ∧ m3 xs255 H256 < m3 xs4 H5))
      (pWk (List.length H0) [(xs4.getD 1 V.undef)] H5 fun xs257 H258 => (Q (nthV xs257 0) H258))
def h230 : Nat → Option (List Nat)
  | 3 => some [2, 7, 8]
  | 6 => some [2, 7, 9]
  | _ => none
theorem c230 {x0 x1 x2 : V} {H0 : Heap} {Q : V → Heap → Prop} (h : t230 x0 x1 x2 H0 Q) : Ct Try.prog 230 [x0, x1, x2] H0 Q :=
  Ct_of_text (fn := Try.f230) h230 (by kernel_rfl) (by kernel_rfl) (by kernel_rfl) (by kernel_rfl) h

end Go.Sim

set_option maxRecDepth 100000
namespace Go.Sim
open Go.Proofs

def t277 (x0 : V) (H0 : Heap) (Q : V → Heap → Prop) : Prop :=
  pBin EK.other BinOp.lss x0 (V.int .i64 0) H0 fun v0 =>
  cIf v0
    (pBin EK.other BinOp.quo x0 (V.int .i64 10) H0 fun v1 =>
    pBin EK.other BinOp.eql v1 (V.int .i64 0) H0 fun v2 =>
    cIf v2
      (pBin EK.other BinOp.sub (V.int .i64 48) x0 H0 fun v3 =>
      pConvInt .u8 v3 fun v4 =>
      pBs 5 1 (V.int .u8 0) 1 [0] [v4] H0 fun v5 H6 =>
      pConvX Try.prog 22 9 v5 H6 fun v7 =>
      pBin EK.other BinOp.add (V.str ({ data := #[45] })) v7 H6 fun v8 =>
      pWk (List.length H0) [v8] H6 fun xs9 H10 => (Q (nthV xs9 0) H10))
      (pBin EK.other BinOp.quo x0 (V.int .i64 10) H0 fun v11 =>
      pBin EK.other BinOp.rem x0 (V.int .i64 10) H0 fun v12 =>
      pBin EK.other BinOp.sub (V.int .i64 48) v12 H0 fun v13 =>
      pConvInt .u8 v13 fun v14 =>
      ((pCall Try.prog 277 [v11] H0 fun v15 H16 =>
      (keepV v13 H0 H16 ∧ (keepV (V.int .i64 48) H0 H16 ∧ (keepV v12 H0 H16 ∧ (keepV x0 H0 H16 ∧ (keepV (V.int .i64 10) H0 H16 ∧ True))))) ∧ pBs 5 1 (V.int .u8 0) 1 [0] [v14] H16 fun v17 H18 =>
      (keepV x0 H16 H18 ∧ (keepV (V.int .i64 10) H16 H18 ∧ True)) ∧ pConvX Try.prog 22 9 v17 H18 fun v19 =>
      pBin EK.other BinOp.add v15 v19 H18 fun v20 =>
      pWk (List.length H0) [v20] H18 fun xs21 H22 => (Q (nthV xs21 0) H22)) ∧ (pBs 5 1 (V.int .u8 0) 1 [0] [v14] H0 fun v23 H24 =>
      (keepV x0 H0 H24 ∧ (keepV (V.int .i64 10) H0 H24 ∧ True)) ∧ pConvX Try.prog 22 9 v23 H24 fun v25 =>
      pCall Try.prog 277 [v11] H24 fun v26 H27 =>
      (keepV v23 H24 H27 ∧ (keepV v13 H24 H27 ∧ (keepV (V.int .i64 48) H24 H27 ∧ (keepV v12 H24 H27 ∧ (keepV x0 H24 H27 ∧ (keepV (V.int .i64 10) H24 H27 ∧ True)))))) ∧ pBin EK.other BinOp.add v26 v25 H27 fun v28 =>
      pWk (List.length H0) [v28] H27 fun xs29 H30 => (Q (nthV xs29 0) H30)))))
    (∃ (I31 : List V → Heap → Prop) (m32 : List V → Heap → Nat), (pWk (List.length H0) [x0, (V.str ({ data := #[] }))] H0 fun xs35 H36 => (I31 xs35 H36)) ∧
      ∀ xs33 H34, I31 xs33 H34 →
      pBin EK.other BinOp.gtr (xs33.getD 0 V.undef) (V.int .i64 9) H34 fun v37 =>
      cIf v37
        (pBin EK.other BinOp.rem (xs33.getD 0 V.undef) (V.int .i64 10) H34 fun v38 =>
        pBin EK.other BinOp.add (V.int .i64 48) v38 H34 fun v39 =>
        pConvInt .u8 v39 fun v40 =>
        pBs 5 1 (V.int .u8 0) 1 [0] [v40] H34 fun v41 H42 =>
        pConvX Try.prog 22 9 v41 H42 fun v43 =>
        pBin EK.other BinOp.add v43 (xs33.getD 1 V.undef) H42 fun v44 =>
        pBin EK.other BinOp.quo (xs33.getD 0 V.undef) (V.int .i64 10) H42 fun v45 =>
        pWk (List.length H0) [v45, v44] H42 fun xs46 H47 => (I31 xs46 H47) ∧ m32 xs46 H47 < m32 xs33 H34)
        (pBin EK.other BinOp.add (V.int .i64 48) (xs33.getD 0 V.undef) H34 fun v48 =>
        pConvInt .u8 v48 fun v49 =>
        pBs 5 1 (V.int .u8 0) 1 [0] [v49] H34 fun v50 H51 =>
        pConvX Try.prog 22 9 v50 H51 fun v52 =>
        pBin EK.other BinOp.add v52 (xs33.getD 1 V.undef) H51 fun v53 =>
        pWk (List.length H0) [v53] H51 fun xs54 H55 => (Q (nthV xs54 0) H55)))
def h277 : Nat → Option (List Nat)
  | 6 => some [0, 3]
  | _ => none
theorem c277 {x0 : V} {H0 : Heap} {Q : V → Heap → Prop} (h : t277 x0 H0 Q) : Ct Try.prog 277 [x0] H0 Q :=
  Ct_of_text (fn := Try.f277) h277 (by kernel_rfl) (by kernel_rfl) (by kernel_rfl) (by kernel_rfl) h

end Go.Sim
