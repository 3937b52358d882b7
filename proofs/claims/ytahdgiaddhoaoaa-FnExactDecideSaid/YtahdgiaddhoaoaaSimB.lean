/- An evaluator over abstract values: operations, calls, regions (part 2). -/
import Derived.Test.YtahdgiaddhoaoaaSimA
import Derived.Laws.StructEq
import Derived.Laws.BytesString

namespace Go.Sim

/-! ### comparing -/
inductive LK where
  | i | b | s

def eqLeaf : LK → V → V → Option Bool
  | .i, .int k a, .int k' b => if k = k' then some (a == b) else none
  | .b, .bool a, .bool b => some (a == b)
  | .s, .str a, .str b => some (a == b)
  | _, _, _ => none

def eqCells : List LK → List V → List V → Option Bool
  | [], [], [] => some true
  | k :: ks, x :: xs, y :: ys => match eqLeaf k x y, eqCells ks xs ys with
    | some a, some b => some (a && b)
    | _, _ => none
  | _, _, _ => none

theorem eqCells_split : ∀ (ks ls : List LK) (xs ys : List V) (b : Bool), eqCells (ks ++ ls) xs ys = some b →
    ∃ b1 b2, eqCells ks (xs.take ks.length) (ys.take ks.length) = some b1 ∧ eqCells ls (xs.drop ks.length) (ys.drop ks.length) = some b2 ∧ b = (b1 && b2)
  | [], ls, xs, ys, b, h => ⟨true, b, rfl, h, rfl⟩
  | k :: ks, ls, [], ys, b, h => by cases h
  | k :: ks, ls, _ :: _, [], b, h => by cases h
  | k :: ks, ls, x :: xs, y :: ys, b, h => by
    simp only [List.cons_append, eqCells] at h
    split at h
    · rename_i a b' h1 h2
      cases h
      obtain ⟨b1, b2, g1, g2, rfl⟩ := eqCells_split ks ls xs ys _ h2
      exact ⟨a && b1, b2, by simp [eqCells, h1, g1], by simpa using g2, by rw [Bool.and_assoc]⟩
    · cases h

theorem eqCells_len : ∀ (ks : List LK) (xs ys : List V) (b : Bool), eqCells ks xs ys = some b → xs.length = ks.length ∧ ys.length = ks.length
  | [], [], [], _, _ => ⟨rfl, rfl⟩
  | [], [], _ :: _, _, h => by cases h
  | [], _ :: _, _, _, h => by cases h
  | _ :: _, [], _, _, h => by cases h
  | _ :: _, _ :: _, [], _, h => by cases h
  | k :: ks, x :: xs, y :: ys, b, h => by
    simp only [eqCells] at h
    split at h
    · rename_i h2
      have := eqCells_len ks xs ys _ h2
      simp [this.1, this.2]
    · cases h

def eqFold (P : Program) (rec : TypeId → Option (List LK)) : List Field → Nat → Option (List LK)
  | [], _ => some []
  | f :: fs, o => if f.name = "_" ∨ f.offset ≠ o then none else match rec f.type, P.info? f.type with
    | some ks, some i => if i.size = ks.length then match eqFold P rec fs (o + ks.length) with
      | some ls => some (ks ++ ls)
      | none => none
      else none
    | _, _ => none
/-- What the cells are, where '==' compares cell by cell. -/
def eqTy (P : Program) : Nat → TypeId → Option (List LK)
  | 0, _ => none
  | n + 1, t => match P.underlying t with
    | some (.int _) => some [.i]
    | some .bool => some [.b]
    | some .string => some [.s]
    | some (.struct fs) => if P.stoodInHeld t = true then none else eqFold P (eqTy P n) fs.toList 0
    | _ => none
def eqFs (P : Program) (n : Nat) (fs : List Field) (o : Nat) : Option (List LK) := eqFold P (eqTy P n) fs o
theorem eqFs_nil {P : Program} {n o : Nat} : eqFs P n [] o = some [] := rfl
theorem eqFs_cons {P : Program} {n o : Nat} {f : Field} {fs : List Field} : eqFs P n (f :: fs) o = if f.name = "_" ∨ f.offset ≠ o then none else match eqTy P n f.type, P.info? f.type with
    | some ks, some i => if i.size = ks.length then match eqFs P n fs (o + ks.length) with
      | some ls => some (ks ++ ls)
      | none => none
      else none
    | _, _ => none := rfl

/-- The value that cells make. -/
def packV (ag : Bool) (us : Array Value) : Value := if ag then .agg us else us.getD 0 undef

def CellsRS (w : World) (A : Nat → Prop) (xs : List V) (us : Array Value) : Prop := us.size = xs.length ∧ ∀ (i : Nat) c u, xs[i]? = some c → us[i]? = some u → RS w A c u

theorem CellsRS.part {w A xs us} (h : CellsRS w A xs us) (o k : Nat) (hle : o + k ≤ xs.length) : CellsRS w A ((xs.drop o).take k) (us.extract o (o + k)) := by
  refine ⟨by simp [h.1]; omega, fun i c u hc hu => ?_⟩
  have hik : i < k := by
    have := (List.getElem?_eq_some_iff.1 hc).1
    simp at this; omega
  rw [List.getElem?_take_of_lt hik, List.getElem?_drop] at hc
  refine h.2 (o + i) c u hc ?_
  rw [Array.getElem?_extract] at hu
  split at hu
  · exact hu
  · cases hu

theorem run_part {P : Program} {w : World} {t d i} (hu : P.underlying t = some d) (hi : P.info? t = some i) {us : Array Value} {o : Nat} (hle : o + i.size ≤ us.size) (h1 : isAggD d = false → i.size = 1) :
    (part t us o).run P w = .ok (packV (isAggD d) (us.extract o (o + i.size))) w := by
  unfold part
  simp only [Sem.run_bind, run_isAgg hu, Result.andThen]
  cases hd : isAggD d with
  | true => simp [run_sizeOf hi, packV]
  | false =>
    have := h1 hd
    have ho : o < us.size := by omega
    simp [packV, ho, this]
    rw [Array.getElem?_extract, if_pos (by omega)]
    simp [ho]

theorem eqTy_desc {P n t ks} (h : eqTy P n t = some ks) : ∃ d, P.underlying t = some d ∧ (isAggD d = false → ks.length = 1) := by
  cases n with
  | zero => rw [eqTy] at h; cases h
  | succ n =>
    rw [eqTy] at h
    split at h
    · rename_i hu; cases h; exact ⟨_, hu, fun _ => rfl⟩
    · rename_i hu; cases h; exact ⟨_, hu, fun _ => rfl⟩
    · rename_i hu; cases h; exact ⟨_, hu, fun _ => rfl⟩
    · rename_i fs hu
      exact ⟨_, hu, fun hd => by cases hd⟩
    · cases h

theorem CellsRS.one {w A x us} (h : CellsRS w A [x] us) : ∃ u, us = #[u] ∧ RS w A x u := by
  obtain ⟨h1, h2⟩ := h
  have h1 : us.size = 1 := by simpa using h1
  have hu : us[0]? = some (us[0]'(by omega)) := Array.getElem?_eq_getElem _
  refine ⟨_, ?_, h2 0 x _ rfl hu⟩
  apply Array.ext
  · simpa using h1
  · intro i h3 h4
    have : i = 0 := by omega
    subst this
    rfl

theorem run_equal {P : Program} {w : World} {A : Nat → Prop} : ∀ (n : Nat) (t : TypeId) (d : TypeDesc) (ks : List LK), eqTy P n t = some ks → P.underlying t = some d → ∀ (xs ys : List V) (us vs : Array Value) (b : Bool) (k : Nat),
    CellsRS w A xs us → CellsRS w A ys vs → eqCells ks xs ys = some b → (Op.equalIn (k + n) t (packV (isAggD d) us) (packV (isAggD d) vs)).run P w = .ok b w := by
  intro n
  induction n with
  | zero => intro t d ks h; rw [eqTy] at h; cases h
  | succ n ih =>
    intro t d ks h hd xs ys us vs b k hx hy hb
    rw [eqTy, hd] at h
    have hlen := eqCells_len _ _ _ _ hb
    have leaf : ∀ {l : LK}, ks = [l] → ∃ x y u v, xs = [x] ∧ ys = [y] ∧ us = #[u] ∧ vs = #[v] ∧ RS w A x u ∧ RS w A y v ∧ eqLeaf l x y = some b := by
      rintro l rfl
      match xs, ys, hlen with
      | [x], [y], _ =>
        obtain ⟨u, rfl, h1⟩ := hx.one
        obtain ⟨v, rfl, h2⟩ := hy.one
        refine ⟨x, y, u, v, rfl, rfl, rfl, rfl, h1, h2, ?_⟩
        simp only [eqCells] at hb
        split at hb
        · rename_i a b' g1 g2
          cases g2; cases hb
          simpa using g1
        · cases hb
    split at h
    · rename_i e
      cases e
      obtain ⟨x, y, u, v, rfl, rfl, rfl, rfl, h1, h2, h3⟩ := leaf (Option.some.inj h).symm
      cases x <;> cases y <;> simp [eqLeaf] at h3
      cases h1; cases h2
      obtain ⟨rfl, rfl⟩ := h3
      exact run_equalIn_int w (k + n) t _ _ _ _ hd
    · rename_i e
      cases e
      obtain ⟨x, y, u, v, rfl, rfl, rfl, rfl, h1, h2, h3⟩ := leaf (Option.some.inj h).symm
      cases x <;> cases y <;> simp [eqLeaf] at h3
      cases h1; cases h2; subst h3
      exact run_equalIn_bool' w _ t _ _ hd
    · rename_i e
      cases e
      obtain ⟨x, y, u, v, rfl, rfl, rfl, rfl, h1, h2, h3⟩ := leaf (Option.some.inj h).symm
      cases x <;> cases y <;> simp [eqLeaf] at h3
      cases h1; cases h2; subst h3
      have := run_equalIn_string (P := P) w (k + n) t
      rename_i a c
      rw [show (packV (isAggD .string) #[Value.string a]) = .string a from rfl, show (packV (isAggD .string) #[Value.string c]) = .string c from rfl, beq_toListBytes]
      exact this a c hd
    · rename_i fs e
      cases e
      split at h
      · cases h
      · rename_i hs
        have hf : P.fieldsOf t = fs := by simp [Program.fieldsOf, hd]
        show (Op.equalIn (k + n + 1) t (.agg us) (.agg vs)).run P w = _
        rw [run_equalIn_struct (P := P) w _ t us vs (by rw [hf]; exact hd) (by simpa using hs), hf]
        -- the fields, from a cell on
        have fields : ∀ (fs : List Field) (o : Nat) (ks : List LK) (b : Bool), eqFs P n fs o = some ks → eqCells ks (xs.drop o) (ys.drop o) = some b → o + ks.length ≤ xs.length → o + ks.length ≤ ys.length →
            (Op.eqFields (k + n) us vs fs).run P w = .ok b w := by
          intro fs
          induction fs with
          | nil =>
            intro o ks b h hb _ _
            rw [eqFs_nil] at h
            cases h
            match hxs : xs.drop o, hys : ys.drop o, hb with
            | [], [], hb => cases hb; simp [Op.eqFields]
            | _ :: _, _, hb => cases hb
            | [], _ :: _, hb => cases hb
          | cons f fs ihf =>
            intro o ks b h hb hxo hyo
            rw [eqFs_cons] at h
            split at h
            · cases h
            · rename_i hno
              have hname : f.name ≠ "_" := fun e => hno (.inl e)
              have hoff : f.offset = o := by
                by_cases e : f.offset = o
                · exact e
                · exact absurd (.inr e) hno
              split at h
              · rename_i kf i hk hi
                split at h
                · rename_i hsz
                  split at h
                  · rename_i ls hls
                    cases h
                    obtain ⟨b1, b2, g1, g2, rfl⟩ := eqCells_split _ _ _ _ _ hb
                    rw [List.drop_drop] at g2
                    rw [List.drop_drop] at g2
                    simp only [List.length_append] at hxo hyo
                    obtain ⟨df, hdf, hone⟩ := eqTy_desc hk
                    have p1 := run_part (P := P) (w := w) hdf hi (us := us) (o := o) (by rw [hx.1, hsz]; omega) (fun hh => by rw [hsz]; exact hone hh)
                    have p2 := run_part (P := P) (w := w) hdf hi (us := vs) (o := o) (by rw [hy.1, hsz]; omega) (fun hh => by rw [hsz]; exact hone hh)
                    have heq := ih f.type df kf hk hdf _ _ _ _ b1 k (hx.part o kf.length (by omega)) (hy.part o kf.length (by omega)) g1
                    rw [hsz] at p1 p2
                    have hrest := ihf (o + kf.length) ls b2 hls g2 (by omega) (by omega)
                    rw [Op.eqFields]
                    simp only [if_pos hname, Sem.run_bind, hoff, p1, p2, heq, Result.andThen_ok]
                    cases b1
                    · simp
                    · simpa using hrest
                  · cases h
                · cases h
              · cases h
        exact fields fs.toList 0 ks b h (by simpa using hb) (by omega) (by omega)
    · cases h

end Go.Sim

namespace Go.Sim

/-! ### arithmetic and comparisons -/
def pInt (op : BinOp) (k : IntKind) (a b : Int) (K : V → Prop) : Prop :=
  match op with
  | .add => K (.int k (k.wrap (a + b)))
  | .sub => K (.int k (k.wrap (a - b)))
  | .mul => K (.int k (k.wrap (a * b)))
  | .quo => b ≠ 0 ∧ K (.int k (k.wrap (a.tdiv b)))
  | .rem => b ≠ 0 ∧ K (.int k (a.tmod b))
  | .and => K (.int k (k.wrap ((BitVec.ofInt k.bits a &&& BitVec.ofInt k.bits b).toNat : Int)))
  | .or => K (.int k (k.wrap ((BitVec.ofInt k.bits a ||| BitVec.ofInt k.bits b).toNat : Int)))
  | .xor => K (.int k (k.wrap ((BitVec.ofInt k.bits a ^^^ BitVec.ofInt k.bits b).toNat : Int)))
  | .eql => K (.bool (a == b))
  | .neq => K (.bool (a != b))
  | .lss => K (.bool (decide (a < b)))
  | .leq => K (.bool (decide (a ≤ b)))
  | .gtr => K (.bool (decide (b < a)))
  | .geq => K (.bool (decide (b ≤ a)))
  | _ => False

/-- Is it the nil slice? -/
def nnOf (H : Heap) : V → Option Bool
  | .sl nn _ _ => some nn
  | .ref id _ _ => match H[id]? with
    | some (.sl nn _ _ _) => some nn
    | some (.fz nn _ _) => some nn
    | _ => none
  | _ => none

/-- How '==' compares at a type. -/
inductive EK where
  | bool
  | slice
  | agg (ks : List LK)
  | other

def EK.ok (P : Program) (t : TypeId) : EK → Prop
  | .bool => P.underlying t = some .bool
  | .slice => ∃ e, P.underlying t = some (.slice e)
  | .agg ks => ∃ fs, P.underlying t = some (.struct fs) ∧ P.eqGuardType P.depth t = false ∧ eqTy P 6 t = some ks
  | .other => True

def ekOf (P : Program) (t : TypeId) : EK :=
  match P.underlying t with
  | some .bool => .bool
  | some (.slice _) => .slice
  | some (.struct _) => if P.eqGuardType P.depth t = true then .other else match eqTy P 6 t with
    | some ks => .agg ks
    | none => .other
  | _ => .other

theorem ekOf_ok (P : Program) (t : TypeId) : (ekOf P t).ok P t := by
  unfold ekOf
  split
  · assumption
  · exact ⟨_, by assumption⟩
  · split
    · trivial
    · split
      · exact ⟨_, by assumption, by simp_all, by assumption⟩
      · trivial
  · trivial

def pBin (ek : EK) (op : BinOp) (x y : V) (H : Heap) (K : V → Prop) : Prop :=
  match x, y with
  | .int k a, .int k' b => match op with
    | .shl => 0 ≤ b ∧ K (.int k (k.wrap (a * 2 ^ (min b.toNat k.bits))))
    | .shr => 0 ≤ b ∧ K (.int k (a.fdiv (2 ^ (min b.toNat k.bits))))
    | op => k = k' ∧ pInt op k a b K
  | .bool a, .bool b => match op, ek with
    | .eql, .bool => K (.bool (a == b))
    | .neq, .bool => K (.bool (a != b))
    | _, _ => False
  | .str a, .str b => match op with
    | .add => a.size + b.size ≤ 4611686018427387904 ∧ K (.str (a ++ b))
    | .eql => K (.bool (a == b))
    | .neq => K (.bool (a != b))
    | _ => False
  | .agg xs, .agg ys => match op, ek with
    | .eql, .agg ks => match eqCells ks xs ys with
      | some b => K (.bool b)
      | none => False
    | .neq, .agg ks => match eqCells ks xs ys with
      | some b => K (.bool !b)
      | none => False
    | _, _ => False
  | x, y => match op, ek, nnOf H x, nnOf H y with
    | .eql, .slice, some nn, some false => K (.bool !nn)
    | .neq, .slice, some nn, some false => K (.bool nn)
    | _, _, _, _ => False

theorem run_eqGuard_plain {P : Program} {w : World} (op : BinOp) (t : TypeId) (x y : Operand) {a b : Value} (h1 : ∀ us, a ≠ .agg us) (h2 : a ≠ .nilIface) : (eqGuard op t x y a b).run P w = .ok () w := by
  unfold eqGuard
  cases op <;> first | rfl | skip
  all_goals
    cases a <;> first | exact absurd rfl h2 | exact absurd rfl (h1 _) | rfl

theorem nnOf_rep {w A ρ H} (h : HR w A ρ H) {x : V} {u : Value} (hx : Rep w A ρ H.length x u) {nn : Bool} (hn : nnOf H x = some nn) : ∃ a l c, u = .slice a l c ∧ a.isNone = !nn := by
  unfold nnOf at hn
  split at hn
  · cases hn
    cases hx with
    | st hx => cases hx with
      | slnil => exact ⟨_, _, _, rfl, rfl⟩
      | sl => exact ⟨_, _, _, rfl, rfl⟩
  · rename_i id off len
    split at hn
    · rename_i hk
      cases hn
      have g1 := (h.rep id _ hk).1
      cases hx with
      | st hx => cases hx
      | ref1 q1 q2 => exact ⟨_, _, _, rfl, by rw [← g1, q2]; rfl⟩
      | ref0 q1 q2 => exact ⟨_, _, _, rfl, by rw [← g1, q2]; rfl⟩
    · rename_i hk
      cases hn
      have g1 := (h.rep id _ hk).1
      cases hx with
      | st hx => cases hx
      | ref1 q1 q2 => exact ⟨_, _, _, rfl, by rw [← g1, q2]; rfl⟩
      | ref0 q1 q2 => exact ⟨_, _, _, rfl, by rw [← g1, q2]; rfl⟩
    · cases hn
  · cases hn

theorem run_equalIn_nil {P : Program} {w : World} {t e : TypeId} (hu : P.underlying t = some (.slice e)) (d : Nat) (a : Option Addr) (l c l' c' : Nat) : (Op.equalIn (d + 1) t (.slice a l c) (.slice none l' c')).run P w = .ok a.isNone w := by
  cases a <;> simp [Op.equalIn, run_underlying hu]
theorem run_equal_nil {P : Program} {w : World} {t e : TypeId} (hu : P.underlying t = some (.slice e)) (a : Option Addr) (l c l' c' : Nat) : (Op.equal t (.slice a l c) (.slice none l' c')).run P w = .ok a.isNone w := by
  have := run_equalIn_nil (P := P) (w := w) hu 9999 a l c l' c'
  simp only [Op.equal, Op.maxDepth]
  exact this
theorem run_equal_top {P : Program} {w : World} {A : Nat → Prop} {t d ks} (hT : eqTy P 6 t = some ks) (hd : P.underlying t = some d) {xs ys us vs b} (hx : CellsRS w A xs us) (hy : CellsRS w A ys vs) (hb : eqCells ks xs ys = some b) :
    (Op.equal t (packV (isAggD d) us) (packV (isAggD d) vs)).run P w = .ok b w := by
  have := run_equal (P := P) (w := w) (A := A) 6 t d ks hT hd xs ys us vs b 9994 hx hy hb
  simp only [Op.equal, Op.maxDepth]
  exact this

theorem eqCells_static : ∀ (ks : List LK) (xs ys : List V) (b : Bool), eqCells ks xs ys = some b → (∀ x ∈ xs, x.static = true) ∧ ∀ y ∈ ys, y.static = true
  | [], [], [], _, _ => ⟨fun x h => (by cases h), fun x h => (by cases h)⟩
  | [], [], _ :: _, _, h => by cases h
  | [], _ :: _, _, _, h => by cases h
  | _ :: _, [], _, _, h => by cases h
  | _ :: _, _ :: _, [], _, h => by cases h
  | k :: ks, x :: xs, y :: ys, b, h => by
    simp only [eqCells] at h
    split at h
    · rename_i h1 h2
      have := eqCells_static ks xs ys _ h2
      have hh : x.static = true ∧ y.static = true := by cases k <;> cases x <;> cases y <;> simp [eqLeaf] at h1 <;> exact ⟨rfl, rfl⟩
      refine ⟨fun z hz => ?_, fun z hz => ?_⟩
      · rcases List.mem_cons.1 hz with rfl | hz
        · exact hh.1
        · exact this.1 z hz
      · rcases List.mem_cons.1 hz with rfl | hz
        · exact hh.2
        · exact this.2 z hz
    · cases h

theorem Rep.cellsRS {w A ρ n cs u} (h : Rep w A ρ n (.agg cs) u) (hs : ∀ x ∈ cs, x.static = true) : ∃ us, u = .agg us ∧ CellsRS w A cs us := by
  obtain ⟨us, rfl, h1, h2⟩ := h.agg_inv
  exact ⟨us, rfl, h1, fun i c u hc hu => (h2 i c u hc hu).rs (hs c (List.mem_of_getElem? hc))⟩

theorem sound_bin {P : Program} {w A ρ H} (h : HR w A ρ H) {t : TypeId} {ek : EK} (hek : ek.ok P t) (op : BinOp) (ox oy : Operand)
    {x y : V} {ux uy : Value} (hx : Rep w A ρ H.length x ux) (hy : Rep w A ρ H.length y uy)
    {K : V → Heap → Prop} (hK : pBin ek op x y H (fun v => K v H)) : Ok1 P w A ρ H (do eqGuard op t ox oy ux uy; binOp op t ux uy) K := by
  have go : ∀ {v u}, ((∀ us, ux ≠ .agg us) ∧ ux ≠ .nilIface) → (binOp op t ux uy).run P w = .ok u w → Rep w A ρ H.length v u → K v H → Ok1 P w A ρ H (do eqGuard op t ox oy ux uy; binOp op t ux uy) K := by
    intro v u hp hr hv hk
    refine Ok1.still h ?_ hv hk
    rw [Sem.run_bind, run_eqGuard_plain op t ox oy hp.1 hp.2]
    exact hr
  unfold pBin at hK
  split at hK
  · rename_i k a k' b
    have := hx.int_inv; subst this
    have := hy.int_inv; subst this
    have hp : (∀ us, Value.int k a ≠ .agg us) ∧ Value.int k a ≠ .nilIface := ⟨fun us => by simp, by simp⟩
    split at hK
    · obtain ⟨h0, hK⟩ := hK
      refine go hp ?_ .int hK
      simp [binOp, Op.shift, show ¬ b < 0 by omega]
    · obtain ⟨h0, hK⟩ := hK
      refine go hp ?_ .int hK
      simp [binOp, Op.shift, show ¬ b < 0 by omega]
    · rename_i op n1 n2
      obtain ⟨rfl, hK⟩ := hK
      unfold pInt at hK
      split at hK <;> first
        | exact hK.elim
        | (refine go hp ?_ .int hK; simp [binOp, Op.intArith, Op.intBits]; done)
        | (refine go hp ?_ .int hK.2; simp [binOp, Op.intDiv, hK.1]; done)
        | (refine go hp ?_ .bool hK; simp [binOp, Op.intCmp]; done)
  · rename_i a b
    have := hx.bool_inv; subst this
    have := hy.bool_inv; subst this
    have hp : (∀ us, Value.bool a ≠ .agg us) ∧ Value.bool a ≠ .nilIface := ⟨fun us => by simp, by simp⟩
    have hr : P.underlying t = some .bool → (Op.equal t (.bool a) (.bool b)).run P w = .ok (a == b) w := fun hd => run_equalIn_bool' w 9999 t a b hd
    split at hK
    · refine go hp ?_ .bool hK
      simp only [binOp]
      simp [hr hek]
    · refine go hp ?_ .bool hK
      simp only [binOp]
      simp [hr hek, bne]
    · exact hK.elim
  · rename_i a b
    have := hx.str_inv; subst this
    have := hy.str_inv; subst this
    have hp : (∀ us, Value.string a ≠ .agg us) ∧ Value.string a ≠ .nilIface := ⟨fun us => by simp, by simp⟩
    split at hK
    · refine go hp ?_ .str hK.2
      simp only [binOp]
      exact run_string_add_sum w a b (by omega)
    · refine go hp ?_ .bool hK
      simp [binOp, Op.stringOp, ← beq_toListBytes]
    · refine go hp ?_ .bool hK
      simp [binOp, Op.stringOp, bne, ← beq_toListBytes]
    · exact hK.elim
  · rename_i xs ys
    have agg : ∀ ks b, ek = .agg ks → eqCells ks xs ys = some b → ∃ us vs, ux = .agg us ∧ uy = .agg vs ∧ (eqGuard op t ox oy ux uy).run P w = .ok () w ∧ (Op.equal t ux uy).run P w = .ok b w := by
      rintro ks b rfl hb
      obtain ⟨fs, hd, hg, hT⟩ := hek
      obtain ⟨s1, s2⟩ := eqCells_static _ _ _ _ hb
      obtain ⟨us, rfl, h1⟩ := hx.cellsRS s1
      obtain ⟨vs, rfl, h2⟩ := hy.cellsRS s2
      exact ⟨us, vs, rfl, rfl, run_eqGuard_agg w op t ox oy us vs hg, run_equal_top hT hd h1 h2 hb⟩
    split at hK
    · split at hK
      · rename_i b hb
        obtain ⟨us, vs, rfl, rfl, h1, h2⟩ := agg _ b rfl hb
        refine Ok1.still h ?_ .bool hK
        rw [Sem.run_bind, h1, Result.andThen_ok]
        simp only [binOp]
        simp [h2]
      · exact hK.elim
    · split at hK
      · rename_i b hb
        obtain ⟨us, vs, rfl, rfl, h1, h2⟩ := agg _ b rfl hb
        refine Ok1.still h ?_ .bool hK
        rw [Sem.run_bind, h1, Result.andThen_ok]
        simp only [binOp]
        simp [h2]
      · exact hK.elim
    · exact hK.elim
  · split at hK
    · rename_i nn h1 h2
      obtain ⟨a, l, c, rfl, ha⟩ := nnOf_rep h hx h1
      obtain ⟨a', l', c', rfl, ha'⟩ := nnOf_rep h hy h2
      cases a' with
      | some _ => cases ha'
      | none =>
        obtain ⟨e, hd⟩ := hek
        refine go ⟨fun us => by simp, by simp⟩ ?_ .bool hK
        simp only [binOp]
        simp [run_equal_nil hd, ha]
    · rename_i nn h1 h2
      obtain ⟨a, l, c, rfl, ha⟩ := nnOf_rep h hx h1
      obtain ⟨a', l', c', rfl, ha'⟩ := nnOf_rep h hy h2
      cases a' with
      | some _ => cases ha'
      | none =>
        obtain ⟨e, hd⟩ := hek
        refine go ⟨fun us => by simp, by simp⟩ ?_ .bool hK
        simp only [binOp]
        simp [run_equal_nil hd, ha]
    · exact hK.elim

end Go.Sim

namespace Go.Sim

/-! ## 7. Another view of the heap: blocks renumbered, forgotten, written no more -/
inductive RT where
  | to (id : Nat)
  | nil (s : Nat)

/-- Stands for nothing. -/
def V.bad : V := .sl false 0 [.undef]
theorem bad_rs {w A u} (h : RS w A V.bad u) : False := by unfold V.bad at h; cases h
theorem bad_rep {w A ρ n u} (h : Rep w A ρ n V.bad u) : False := by
  have h := h.rs rfl
  exact bad_rs h

mutual
/-- Ids replaced. -/
def V.ren (f : Nat → RT) : V → V
  | .agg cs => .agg (V.rens f cs)
  | .tup cs => .tup (V.rens f cs)
  | .iface t v => .iface t (v.ren f)
  | .fn k cs => .fn k (V.rens f cs)
  | .ref id off len => match f id with
    | .to j => .ref j off len
    | .nil s => if off = 0 ∧ len = 0 then .sl false s [] else .bad
  | .ptr id i j => match f id with
    | .to id' => .ptr id' i j
    | .nil _ => .bad
  | v => v
def V.rens (f : Nat → RT) : List V → List V
  | [] => []
  | v :: r => v.ren f :: V.rens f r
end

mutual
/-- References read as what they show. -/
def V.view (f : Nat → Option (Bool × Nat × List V)) : V → V
  | .agg cs => .agg (V.views f cs)
  | .tup cs => .tup (V.views f cs)
  | .iface t v => .iface t (v.view f)
  | .ref id off len => match f id with
    | some (nn, s, rows) => if off + len ≤ rows.length then .sl nn s ((rows.drop off).take len) else .ref id off len
    | none => .ref id off len
  | v => v
def V.views (f : Nat → Option (Bool × Nat × List V)) : List V → List V
  | [] => []
  | v :: r => v.view f :: V.views f r
end

theorem V.rens_map (f : Nat → RT) (l : List V) : V.rens f l = l.map (·.ren f) := by
  induction l with
  | nil => rfl
  | cons a l ih => simp [V.rens, ih]
theorem V.views_map (f) (l : List V) : V.views f l = l.map (·.view f) := by
  induction l with
  | nil => rfl
  | cons a l ih => simp [V.views, ih]

def Blk.ren (f : Nat → RT) : Blk → Blk
  | .box e v => .box e (v.ren f)
  | k => k
def Blk.view (f : Nat → Option (Bool × Nat × List V)) : Blk → Blk
  | .box e v => .box e (v.view f)
  | k => k

/-- Which ids are read as what they show. -/
def vwOf (H : Heap) (vw : List Nat) : Nat → Option (Bool × Nat × List V) := fun id =>
  if vw.contains id then match H[id]? with
    | some (.sl nn _ s rows) => some (nn, s, rows)
    | some (.fz nn s rows) => some (nn, s, rows)
    | _ => none
  else none

mutual
theorem V.view_static (f : Nat → Option (Bool × Nat × List V)) : ∀ v : V, v.static = true → v.view f = v
  | .agg cs, h => by rw [V.view, V.views_static f cs h]
  | .tup cs, h => by cases h
  | .iface t v, h => by rw [V.view, V.view_static f v h]
  | .ref .., h => by cases h
  | .ptr .., h => by cases h
  | .int .., _ => rfl
  | .bool .., _ => rfl
  | .str .., _ => rfl
  | .sl .., _ => rfl
  | .nil, _ => rfl
  | .nili, _ => rfl
  | .nilf, _ => rfl
  | .fn .., _ => rfl
  | .loc .., _ => rfl
  | .undef, _ => rfl
theorem V.views_static (f : Nat → Option (Bool × Nat × List V)) : ∀ l : List V, V.statics l = true → V.views f l = l
  | [], _ => rfl
  | v :: r, h => by
    simp only [V.statics, Bool.and_eq_true] at h
    rw [V.views, V.view_static f v h.1, V.views_static f r h.2]
end
mutual
theorem V.ren_static (f : Nat → RT) : ∀ v : V, v.static = true → v.ren f = v
  | .agg cs, h => by rw [V.ren, V.rens_static f cs h]
  | .tup cs, h => by cases h
  | .iface t v, h => by rw [V.ren, V.ren_static f v h]
  | .ref .., h => by cases h
  | .ptr .., h => by cases h
  | .int .., _ => rfl
  | .bool .., _ => rfl
  | .str .., _ => rfl
  | .sl .., _ => rfl
  | .nil, _ => rfl
  | .nili, _ => rfl
  | .nilf, _ => rfl
  | .fn k cs, h => by rw [V.ren, V.rens_static f cs h]
  | .loc .., _ => rfl
  | .undef, _ => rfl
theorem V.rens_static (f : Nat → RT) : ∀ l : List V, V.statics l = true → V.rens f l = l
  | [], _ => rfl
  | v :: r, h => by
    simp only [V.statics, Bool.and_eq_true] at h
    rw [V.rens, V.ren_static f v h.1, V.rens_static f r h.2]
end

/-- What a slice's block shows from `off` on. -/
theorem rs_sl {w A b o cap s} {rows : List V} (hr : RowsAt (RS w A) w b o s rows) (hA : rows ≠ [] → A b) (hc : rows.length ≤ cap) : RS w A (.sl true s rows) (.slice (some ⟨b, o, none⟩) rows.length cap) := by
  have key : ∀ (i j : Nat), ∃ u, ∀ x c, rows[i]? = some x → x.cells[j]? = some c → w.cell? ⟨b, o + i * s + j, none⟩ = some u ∧ RS w A c u := by
    intro i j
    by_cases h : ∃ x c, rows[i]? = some x ∧ x.cells[j]? = some c
    · obtain ⟨x, c, hx, hc⟩ := h
      obtain ⟨u, h1, h2⟩ := hr.2 i x j c hx hc
      refine ⟨u, fun x' c' hx' hc' => ?_⟩
      rw [hx] at hx'; cases hx'
      rw [hc] at hc'; cases hc'
      exact ⟨h1, h2⟩
    · exact ⟨undef, fun x c hx hc => absurd ⟨x, c, hx, hc⟩ h⟩
  exact .sl (u := fun i j => (key i j).choose) hA hc hr.1 (fun i x j c hx hc => ((key i j).choose_spec x c hx hc).1) (fun i x j c hx hc => ((key i j).choose_spec x c hx hc).2)

theorem rep_view {w A A' ρ H} (h : HR w A ρ H) {vw : List Nat} (hA : ∀ b, A b → A' b) (hvw : ∀ id e s rows, id ∈ vw → H[id]? = some (.sl true e s rows) → A' (ρ id).b) :
    ∀ {v u}, Rep w A ρ H.length v u → Rep w A' ρ H.length (v.view (vwOf H vw)) u := by
  intro v u hr
  have up : ∀ {v u}, Rep w A ρ H.length v u → Rep w A' ρ H.length v u := fun hr => hr.mono hA (fun _ _ => rfl) (Nat.le_refl _) (fun _ _ => rfl)
  induction hr with
  | st hr =>
    rw [V.view_static _ _ hr.static]
    exact .st (hr.mono hA fun _ _ => rfl)
  | agg h1 _ ih =>
    refine .agg (by rw [V.views_map]; simpa using h1) fun i c u hc hu => ?_
    rw [V.views_map, List.getElem?_map] at hc
    obtain ⟨c', hc', rfl⟩ := Option.map_eq_some_iff.1 hc
    exact ih i c' u hc' hu
  | tup h1 _ ih =>
    refine .tup (by rw [V.views_map]; simpa using h1) fun i c u hc hu => ?_
    rw [V.views_map, List.getElem?_map] at hc
    obtain ⟨c', hc', rfl⟩ := Option.map_eq_some_iff.1 hc
    exact ih i c' u hc' hu
  | iface _ ih => exact .iface ih
  | fn h1 h2 ih => exact up (.fn h1 h2)
  | @ref1 id off len cap o q1 q2 q3 q4 q5 =>
    have keep : Rep w A' ρ H.length (.ref id off len) (.slice (some ⟨(ρ id).b, o, none⟩) len cap) := .ref1 q1 q2 q3 q4 q5
    have show_ : ∀ (nn : Bool) (s : Nat) (rows : List V), nn = true → (ρ id).s = s → RowsAt (RS w A) w (ρ id).b (ρ id).st s rows → (rows ≠ [] → A' (ρ id).b) →
        Rep w A' ρ H.length (if off + len ≤ rows.length then .sl nn s ((rows.drop off).take len) else .ref id off len) (.slice (some ⟨(ρ id).b, o, none⟩) len cap) := by
      rintro nn s rows rfl hs hr hA'
      split
      · rename_i hle
        have hl := take_len hle
        have hr' : RowsAt (RS w A') w (ρ id).b o s ((rows.drop off).take len) :=
          ((hr.sub off len).move fun hne => by rw [q5 (fun h0 => hne (by rw [show len = 0 by omega]; simp)), hs]).same (fun c u hc => hc.mono hA fun _ _ => rfl) (fun _ => rfl)
        have := rs_sl (cap := cap) hr' (fun hne => hA' (by rintro rfl; simp at hne)) (by rw [hl]; exact q3)
        rw [hl] at this
        exact .st this
      · exact keep
    rw [V.view]
    unfold vwOf
    split
    · rename_i nn s rows hv
      split at hv
      · rename_i hin
        have hin : id ∈ vw := by simpa using hin
        split at hv
        · rename_i nn' e' s' rows' hk
          cases hv
          obtain ⟨g1, g2, g3, g4, g5⟩ := h.rep id _ hk
          have hn : nn = true := by rw [← g1]; exact q2
          subst hn
          exact show_ _ _ _ rfl g2 (g5 rfl).2.2 (fun _ => hvw id e' s rows hin hk)
        · rename_i nn' s' rows' hk
          cases hv
          obtain ⟨g1, g2, g3, g4⟩ := h.rep id _ hk
          have hn : nn = true := by rw [← g1]; exact q2
          subst hn
          exact show_ _ _ _ rfl g2 (g4 rfl).2 (fun hne => hA _ ((g4 rfl).1 hne))
        · cases hv
      · cases hv
    · exact keep
  | @ref0 id q1 q2 =>
    rw [V.view]
    unfold vwOf
    split
    · rename_i nn s rows hv
      split at hv
      · split at hv
        · rename_i nn' e' s' rows' hk
          cases hv
          obtain ⟨g1, g2, g3, g4, g5⟩ := h.rep id _ hk
          have hn : nn = false := by rw [← g1]; exact q2
          subst hn
          have := g4 rfl
          subst this
          exact .st (.slnil _)
        · rename_i nn' s' rows' hk
          cases hv
          obtain ⟨g1, g2, g3, g4⟩ := h.rep id _ hk
          have hn : nn = false := by rw [← g1]; exact q2
          subst hn
          have := g3 rfl
          subst this
          exact .st (.slnil _)
        · cases hv
      · cases hv
    · exact .ref0 q1 q2
  | ptr q1 q2 => exact .ptr q1 q2

mutual
/-- All ids are below `n`. -/
def V.wf (n : Nat) : V → Bool
  | .agg cs => V.wfs n cs
  | .tup cs => V.wfs n cs
  | .iface _ v => v.wf n
  | .fn _ cs => V.wfs n cs
  | .ref id _ _ => decide (id < n)
  | .ptr id _ _ => decide (id < n)
  | _ => true
def V.wfs (n : Nat) : List V → Bool
  | [] => true
  | v :: r => v.wf n && V.wfs n r
end

theorem V.wfs_iff {n : Nat} {l : List V} : V.wfs n l = true ↔ ∀ v ∈ l, v.wf n = true := by
  induction l with
  | nil => simp [V.wfs]
  | cons a l ih => simp [V.wfs, ih]

mutual
/-- Renumbered: from the new numbers to the old. -/
theorem rep_ren {w : World} {A : Nat → Prop} {ρ ρ' : Nat → Loc} {n n' : Nat} {f : Nat → RT} (hf : ∀ i, i < n' → match f i with
      | .to j => ρ' i = ρ j
      | .nil s => ρ' i = ⟨false, 0, 0, s, 0⟩) :
    ∀ (v : V) (u : Value), v.wf n' = true → Rep w A ρ n (v.ren f) u → Rep w A ρ' n' v u
  | .agg cs, u, hv, h => by
    rw [V.ren] at h
    obtain ⟨us, rfl, h1, h2⟩ := h.agg_inv
    have hl : us.size = cs.length := by rw [h1, V.rens_map]; simp
    exact .agg hl (reps_ren hf cs us hv (by rw [V.rens_map] at h2; exact h2))
  | .tup cs, u, hv, h => by
    rw [V.ren] at h
    obtain ⟨us, rfl, h1, h2⟩ := h.tup_inv
    have hl : us.size = cs.length := by rw [h1, V.rens_map]; simp
    exact .tup hl (reps_ren hf cs us hv (by rw [V.rens_map] at h2; exact h2))
  | .iface t v, u, hv, h => by
    rw [V.ren] at h
    cases h with
    | st h => cases h with | iface h => exact .iface (rep_ren hf v _ hv (Rep.st (ρ := ρ) (n := n) h))
    | iface h => exact .iface (rep_ren hf v _ hv h)
  | .fn k cs, u, hv, h => by
    rw [V.ren] at h
    obtain ⟨us, rfl, h1, h2⟩ := h.fn_inv
    have hl : us.size = cs.length := by rw [h1, V.rens_map]; simp
    exact .fn hl (reps_ren hf cs us hv (by rw [V.rens_map] at h2; exact h2))
  | .ref id off len, u, hv, h => by
    have hid : id < n' := by simpa [V.wf] using hv
    have hfi := hf id hid
    rw [V.ren] at h
    split at h
    · rename_i j hj
      rw [hj] at hfi
      simp only at hfi
      cases h with
      | st h => cases h
      | ref1 q1 q2 q3 q4 q5 =>
        rw [← hfi] at q2 q4 q5 ⊢
        exact .ref1 hid q2 q3 q4 q5
      | ref0 q1 q2 =>
        rw [← hfi] at q2
        exact .ref0 hid q2
    · rename_i s hj
      rw [hj] at hfi
      simp only at hfi
      split at h
      · rename_i h0
        obtain ⟨rfl, rfl⟩ := h0
        cases h with
        | st h => cases h with | slnil => exact .ref0 hid (by rw [hfi])
      · exact (bad_rep h).elim
  | .ptr id i j, u, hv, h => by
    have hid : id < n' := by simpa [V.wf] using hv
    have hfi := hf id hid
    rw [V.ren] at h
    split at h
    · rename_i j hj
      rw [hj] at hfi
      simp only at hfi
      cases h with
      | st h => cases h
      | ptr q1 q2 =>
        rw [← hfi] at q2 ⊢
        exact .ptr hid q2
    · exact (bad_rep h).elim
  | .int .., u, _, h => by cases h with | st h => exact .st h
  | .bool .., u, _, h => by cases h with | st h => exact .st h
  | .str .., u, _, h => by cases h with | st h => exact .st h
  | .sl .., u, _, h => by cases h with | st h => exact .st h
  | .nil, u, _, h => by cases h with | st h => exact .st h
  | .nili, u, _, h => by cases h with | st h => exact .st h
  | .nilf, u, _, h => by cases h with | st h => exact .st h
  | .loc .., u, _, h => by cases h with | st h => exact .st h
  | .undef, u, _, h => .undef
theorem reps_ren {w : World} {A : Nat → Prop} {ρ ρ' : Nat → Loc} {n n' : Nat} {f : Nat → RT} (hf : ∀ i, i < n' → match f i with
      | .to j => ρ' i = ρ j
      | .nil s => ρ' i = ⟨false, 0, 0, s, 0⟩) :
    ∀ (cs : List V) (us : Array Value), V.wfs n' cs = true → (∀ (i : Nat) c u, (cs.map (·.ren f))[i]? = some c → us[i]? = some u → Rep w A ρ n c u) → ∀ (i : Nat) c u, cs[i]? = some c → us[i]? = some u → Rep w A ρ' n' c u
  | [], _, _, _, i, c, u, hc, _ => by simp at hc
  | v :: r, us, hv, h, 0, c, u, hc, hu => by
    simp only [V.wfs, Bool.and_eq_true] at hv
    simp at hc
    subst hc
    exact rep_ren hf v u hv.1 (h 0 _ u (by simp) hu)
  | v :: r, us, hv, h, i + 1, c, u, hc, hu => by
    simp only [V.wfs, Bool.and_eq_true] at hv
    have := reps_ren hf r (us.extract 1 us.size) hv.2 (fun i c u hc hu => by
      refine h (i + 1) c u (by simpa using hc) ?_
      rw [Array.getElem?_extract] at hu
      split at hu
      · rw [Nat.add_comm]; exact hu
      · cases hu) i c u (by simpa using hc) (by
        have hl := (Array.getElem?_eq_some_iff.1 hu).1
        rw [Array.getElem?_extract, if_pos (by omega), Nat.add_comm]
        exact hu)
    exact this
end

end Go.Sim

namespace Go.Sim

def toF (order : List RT) : Nat → RT := fun i => order.getD i (.nil 0)

def Blk.wf (n : Nat) : Blk → Bool
  | .box _ v => v.wf n
  | _ => true

/-- `Hs` shows (a part of) `H` under new numbers. -/
structure Sub (lend : Bool) (H : Heap) (vw : List Nat) (order : List RT) (Hs : Heap) : Prop where
  len : Hs.length = order.length
  blk : ∀ (i : Nat) (k : Blk), Hs[i]? = some k → k = .dead ∨ (∃ (j : Nat) (k' : Blk), order[i]? = some (.to j) ∧ H[j]? = some k' ∧ k'.view (vwOf H vw) = k.ren (toF order) ∧ k.wf order.length = true) ∨ (∃ (s : Nat) (e : TypeId), order[i]? = some (.nil s) ∧ k = .sl false e s [] ∧ 0 < s)
  nodup : ∀ (i1 i2 j : Nat), i1 ≠ i2 → order[i1]? = some (.to j) → order[i2]? = some (.to j) → Hs[i1]? = some .dead ∨ Hs[i2]? = some .dead
  lent : lend = true → ∀ id ∈ vw, ∀ (i : Nat), order[i]? = some (.to id) → Hs[i]? = some .dead
  notlent : lend = false → ∀ id ∈ vw, ∀ e s rows, H[id]? ≠ some (.sl true e s rows)

def locOf (ρ : Nat → Loc) (order : List RT) : Nat → Loc := fun i => match toF order i with
  | .to j => ρ j
  | .nil s => ⟨false, 0, 0, s, 0⟩

def lentA (A : Nat → Prop) (ρ : Nat → Loc) (H : Heap) (lend : Bool) (vw : List Nat) : Nat → Prop := fun b => A b ∨ (lend = true ∧ ∃ id ∈ vw, ∃ e s rows, H[id]? = some (.sl true e s rows) ∧ b = (ρ id).b)

theorem toF_some {order : List RT} {i : Nat} {r : RT} (h : order[i]? = some r) : toF order i = r := by simp [toF, h]

theorem RowsAt.imp {R R' : V → Value → Prop} {w b st s} {rows rows' : List V} (h : RowsAt R w b st s rows) (hl : ∀ (i : Nat) x', rows'[i]? = some x' → ∃ x, rows[i]? = some x ∧ x'.cells.length = x.cells.length ∧ x'.cellsOk = true ∧
      ∀ (j : Nat) c' , x'.cells[j]? = some c' → ∃ c, x.cells[j]? = some c ∧ ∀ u, R c u → R' c' u) : RowsAt R' w b st s rows' := by
  refine ⟨fun x' hx' => ?_, fun i x' j c' hx' hc' => ?_⟩
  · obtain ⟨i, hi⟩ := List.getElem?_of_mem hx'
    obtain ⟨x, hx, h1, h2, _⟩ := hl i x' hi
    exact ⟨by rw [h1]; exact (h.1 x (List.mem_of_getElem? hx)).1, h2⟩
  · obtain ⟨x, hx, h1, h2, h3⟩ := hl i x' hx'
    obtain ⟨c, hc, hR⟩ := h3 j c' hc'
    obtain ⟨u, g1, g2⟩ := h.2 i x j c hx hc
    exact ⟨u, g1, hR u g2⟩

theorem view_cells (f) (v : V) : (v.view f).cells.length = v.cells.length ∧ ∀ (j : Nat) c, v.cells[j]? = some c → (v.view f).cells[j]? = some (c.view f) := by
  have one : ∀ {v : V}, v.cells = [v] → (v.view f).cells = [v.view f] → (v.view f).cells.length = v.cells.length ∧ ∀ (j : Nat) c, v.cells[j]? = some c → (v.view f).cells[j]? = some (c.view f) := by
    intro v h1 h2
    rw [h1, h2]
    refine ⟨rfl, fun j c hc => ?_⟩
    obtain ⟨rfl, rfl⟩ := idx_one hc
    rfl
  cases v with
  | agg cs => exact ⟨by simp [V.view, V.cells, V.views_map], fun j c hc => by have hc : cs[j]? = some c := hc; simp only [V.view, V.cells, V.views_map, List.getElem?_map]; rw [hc]; rfl⟩
  | ref id off len =>
    refine one rfl ?_
    rw [V.view]
    split
    · split <;> rfl
    · rfl
  | _ => exact one rfl rfl
theorem ren_cells (f) (v : V) : (v.ren f).cells.length = v.cells.length ∧ ∀ (j : Nat) c, v.cells[j]? = some c → (v.ren f).cells[j]? = some (c.ren f) := by
  have one : ∀ {v : V}, v.cells = [v] → (v.ren f).cells = [v.ren f] → (v.ren f).cells.length = v.cells.length ∧ ∀ (j : Nat) c, v.cells[j]? = some c → (v.ren f).cells[j]? = some (c.ren f) := by
    intro v h1 h2
    rw [h1, h2]
    refine ⟨rfl, fun j c hc => ?_⟩
    obtain ⟨rfl, rfl⟩ := idx_one hc
    rfl
  cases v with
  | agg cs => exact ⟨by simp [V.ren, V.cells, V.rens_map], fun j c hc => by have hc : cs[j]? = some c := hc; simp only [V.ren, V.cells, V.rens_map, List.getElem?_map]; rw [hc]; rfl⟩
  | ref id off len =>
    refine one rfl ?_
    rw [V.ren]
    split
    · rfl
    · split <;> rfl
  | ptr id i j =>
    refine one rfl ?_
    rw [V.ren]
    split <;> rfl
  | _ => exact one rfl rfl

theorem one_of_view {f : Nat → Option (Bool × Nat × List V)} {v : V} (h : v.one = true) : (v.view f).one = true := by
  cases v <;> first | rfl | (simp [V.one] at h; done) | skip
  rw [V.view]
  split
  · split <;> rfl
  · rfl
theorem one_of_ren {f : Nat → RT} {v : V} (h : (v.ren f).one = true) : v.one = true := by
  cases v <;> first | rfl | (simp [V.ren, V.one] at h)

theorem V.wf_cells {n : Nat} {v c : V} (h : v.wf n = true) (hc : c ∈ v.cells) : c.wf n = true := by
  cases v with
  | agg cs => exact V.wfs_iff.1 h c hc
  | _ => simp [V.cells] at hc; subst hc; exact h

theorem sub_sound {w A ρ H} (h : HR w A ρ H) {lend vw order Hs} (hS : Sub lend H vw order Hs) :
    HR w (lentA A ρ H lend vw) (locOf ρ order) Hs ∧
      ∀ v v' u, Rep w A ρ H.length v u → v.view (vwOf H vw) = v'.ren (toF order) → v'.wf order.length = true → Rep w (lentA A ρ H lend vw) (locOf ρ order) Hs.length v' u := by
  have hrep : ∀ v v' u, Rep w A ρ H.length v u → v.view (vwOf H vw) = v'.ren (toF order) → v'.wf order.length = true → Rep w (lentA A ρ H lend vw) (locOf ρ order) Hs.length v' u := by
    intro v v' u hr he hw
    have h1 := rep_view h (A' := lentA A ρ H lend vw) (vw := vw) (fun _ h => .inl h) (fun id e s rows hin hk => by
      cases lend with
      | true => exact .inr ⟨rfl, id, hin, e, s, rows, hk, rfl⟩
      | false => exact absurd hk (hS.notlent rfl id hin e s rows)) hr
    rw [he] at h1
    rw [hS.len]
    refine rep_ren (f := toF order) (fun i hi => ?_) v' u hw h1
    unfold locOf
    split <;> rename_i e <;> first | rfl | simp only [e]
  have live : ∀ {i}, LiveAt Hs i → ∃ j, order[i]? = some (.to j) ∧ LiveAt H j ∧ (locOf ρ order i) = ρ j := by
    rintro i ⟨k, hk, hl⟩
    rcases hS.blk i k hk with rfl | ⟨j, k', h1, h2, h3, h4⟩ | ⟨s, e, h1, rfl, _⟩
    · cases hl
    · refine ⟨j, h1, ⟨k', h2, ?_⟩, by simp [locOf, toF_some h1]⟩
      cases k <;> cases k' <;> simp [Blk.view, Blk.ren] at h3 <;> simp_all [Blk.live]
    · cases hl
  refine ⟨⟨fun i k hk => ?_, fun i1 i2 h1 h2 hne => ?_, fun i hi ha => ?_, fun b hb => ?_⟩, hrep⟩
  · rcases hS.blk i k hk with rfl | ⟨j, k', h1, h2, h3, h4⟩ | ⟨s, e, h1, rfl, h3⟩
    · trivial
    · have hj := h.rep j k' h2
      have hloc : locOf ρ order i = ρ j := by simp [locOf, toF_some h1]
      rw [hloc]
      cases k with
      | box e v =>
        cases k' with
        | box e' v' =>
          simp only [Blk.view, Blk.ren, Blk.box.injEq] at h3
          obtain ⟨rfl, h3⟩ := h3
          obtain ⟨g1, g2, g3, g4, g5, g6⟩ := hj
          have hl : v.cells.length = v'.cells.length := by rw [← (ren_cells (toF order) v).1, ← h3, (view_cells _ v').1]
          refine ⟨g1, g2, by rw [hl]; exact g3, by rw [hl]; exact g4, g5, g6.imp fun q x' hq => ?_⟩
          obtain ⟨rfl, rfl⟩ := idx_one hq
          refine ⟨v', rfl, hl, ?_, fun c cc hc => ?_⟩
          · -- single values stay single values
            have hv' : v'.cellsOk = true := (g6.1 v' (by simp)).2
            simp only [V.cellsOk, List.all_eq_true] at hv' ⊢
            intro c hc
            obtain ⟨q, hq⟩ := List.getElem?_of_mem hc
            have hlt := (List.getElem?_eq_some_iff.1 hq).1
            have hd : v'.cells[q]? = some (v'.cells[q]'(by omega)) := List.getElem?_eq_getElem _
            have e1 := (view_cells (vwOf H vw) v').2 q _ hd
            have e2 := (ren_cells (toF order) _).2 q c hq
            rw [h3, e2] at e1
            refine one_of_ren (f := toF order) ?_
            rw [Option.some.inj e1]
            exact one_of_view (hv' _ (List.getElem_mem _))
          · have hlt := (List.getElem?_eq_some_iff.1 hc).1
            have hc' : v'.cells[c]? = some (v'.cells[c]'(by omega)) := List.getElem?_eq_getElem _
            refine ⟨_, hc', fun u hu => hrep _ cc u hu ?_ (V.wf_cells h4 (List.mem_of_getElem? hc))⟩
            have e1 := (view_cells (vwOf H vw) v').2 c _ hc'
            have e2 := (ren_cells (toF order) x').2 c cc hc
            rw [h3, e2] at e1
            exact (Option.some.inj e1).symm
        | _ => simp [Blk.view, Blk.ren] at h3
      | sl nn e s rows =>
        cases k' <;> simp [Blk.view, Blk.ren] at h3
        obtain ⟨rfl, rfl, rfl, rfl⟩ := h3
        have := hj.mono (A' := lentA A ρ H lend vw) (fun _ h => .inl h) (fun _ _ => rfl) (fun _ => rfl) (Nat.le_refl _) (fun _ _ => rfl)
        exact this
      | fz nn s rows =>
        cases k' <;> simp [Blk.view, Blk.ren] at h3
        obtain ⟨rfl, rfl, rfl⟩ := h3
        have := hj.mono (A' := lentA A ρ H lend vw) (fun _ h => .inl h) (fun _ _ => rfl) (fun _ => rfl) (Nat.le_refl _) (fun _ _ => rfl)
        exact this
      | dead => trivial
    · have hloc : locOf ρ order i = ⟨false, 0, 0, s, 0⟩ := by simp [locOf, toF_some h1]
      rw [hloc]
      exact ⟨rfl, rfl, h3, fun _ => rfl, fun h => by cases h⟩
  · obtain ⟨j1, o1, l1, e1⟩ := live h1
    obtain ⟨j2, o2, l2, e2⟩ := live h2
    rw [e1, e2]
    refine h.sep j1 j2 l1 l2 fun e => ?_
    subst e
    rcases hS.nodup i1 i2 j1 hne o1 o2 with hd | hd
    · obtain ⟨k, hk, hl⟩ := h1; rw [hd] at hk; cases hk; cases hl
    · obtain ⟨k, hk, hl⟩ := h2; rw [hd] at hk; cases hk; cases hl
  · obtain ⟨j, o, l, e⟩ := live hi
    rw [e] at ha
    rcases ha with ha | ⟨hl, id, hid, e', s, rows, hk, hb⟩
    · exact h.out j l ha
    · by_cases e2 : j = id
      · subst e2
        have hd := hS.lent hl j hid i o
        obtain ⟨k, hk', hl'⟩ := hi; rw [hd] at hk'; cases hk'; cases hl'
      · exact h.sep j id l ⟨_, hk, rfl⟩ e2 hb
  · rcases hb with hb | ⟨hl, id, hid, e', s, rows, hk, rfl⟩
    · exact h.lt b hb
    · exact h.live_lt ⟨_, hk, rfl⟩

end Go.Sim

namespace Go.Sim

/-! ## 8. Contracts and calls -/
def callable (P : Program) (k : FuncId) : Bool :=
  match P.funcs[k]? with
  | some fn => !(fn.name == "runtime.NumGoroutine") && fn.body.isSome
  | none => false

def Ct (P : Program) (k : FuncId) (args : List V) (H : Heap) (Q : V → Heap → Prop) : Prop :=
  callable P k = true ∧ ∀ w A ρ (us : Array Value), HR w A ρ H → us.size = args.length → (∀ (i : Nat) v u, args[i]? = some v → us[i]? = some u → Rep w A ρ H.length v u) →
    Calls P k us w fun e w' => ∃ u v H' A' ρ', e = .returned u ∧ Q v H' ∧ HR w' A' ρ' H' ∧ Rep w' A' ρ' H'.length v u ∧ Ext w A ρ H w' A' ρ' H'

theorem Ct.mono {P k args H} {Q Q' : V → Heap → Prop} (h : Ct P k args H Q) (hQ : ∀ v H', Q v H' → Q' v H') : Ct P k args H Q' :=
  ⟨h.1, fun w A ρ us h1 h2 h3 => (h.2 w A ρ us h1 h2 h3).mono fun _ _ ⟨u, v, H', A', ρ', g1, g2, g3⟩ => ⟨u, v, H', A', ρ', g1, hQ _ _ g2, g3⟩⟩

def frz1 (H : Heap) (id : Nat) : Heap :=
  match H[id]? with
  | some (.sl nn _ s rows) => H.set id (.fz nn s rows)
  | _ => H
def frzL (H : Heap) : List Nat → Heap
  | [] => H
  | id :: l => frzL (frz1 H id) l

theorem frzL_sound {w ρ} : ∀ (l : List Nat) (A : Nat → Prop) (H : Heap), HR w A ρ H → ∃ A', HR w A' ρ (frzL H l) ∧ Ext w A ρ H w A' ρ (frzL H l) ∧ (frzL H l).length = H.length
  | [], A, H, h => ⟨A, h, Ext.refl _ _ _ _, rfl⟩
  | id :: l, A, H, h => by
    have : ∃ A', HR w A' ρ (frz1 H id) ∧ Ext w A ρ H w A' ρ (frz1 H id) ∧ (frz1 H id).length = H.length := by
      unfold frz1
      split
      · rename_i hk
        obtain ⟨A', h1, h2⟩ := h.freeze hk
        exact ⟨A', h1, h2, by simp⟩
      · exact ⟨A, h, Ext.refl _ _ _ _, rfl⟩
    obtain ⟨A1, h1, h2, h3⟩ := this
    obtain ⟨A2, g1, g2, g3⟩ := frzL_sound l A1 _ h1
    exact ⟨A2, g1, h2.trans g2, by rw [frzL, g3, h3]⟩

def Blk.flat : Blk → Bool
  | .box _ v => v.flat
  | .sl _ _ _ rows => V.flats rows
  | .fz _ _ _ => false
  | .dead => true

/-- Back from the callee's numbers to the caller's: new blocks come behind. -/
def backF (ids : List Nat) (n : Nat) : Nat → RT := fun i => match ids[i]? with
  | some j => .to j
  | none => .to (n + (i - ids.length))

def setL (H : Heap) : List Nat → Heap → Heap
  | [], _ => H
  | _ :: _, [] => H
  | id :: ids, k :: ks => setL (H.set id k) ids ks

def mergeH (H : Heap) (ids : List Nat) (H' : Heap) : Heap :=
  setL H ids (H'.map (Blk.ren (backF ids H.length))) ++ (H'.drop ids.length).map (Blk.ren (backF ids H.length))

theorem setL_length : ∀ (ids : List Nat) (ks : Heap) (H : Heap), (setL H ids ks).length = H.length
  | [], _, _ => by rw [setL]
  | _ :: _, [], _ => by rw [setL]
  | id :: ids, k :: ks, H => by rw [setL, setL_length ids ks]; simp

theorem setL_out : ∀ (ids : List Nat) (ks : Heap) (H : Heap) (j : Nat), j ∉ ids → (setL H ids ks)[j]? = H[j]?
  | [], _, _, _, _ => by rw [setL]
  | _ :: _, [], _, _, _ => by rw [setL]
  | id :: ids, k :: ks, H, j, h => by
    rw [setL, setL_out ids ks _ j (fun hh => h (List.mem_cons_of_mem _ hh)), List.getElem?_set_ne]
    exact fun e => h (by subst e; simp)

theorem setL_in : ∀ (ids : List Nat) (ks : Heap) (H : Heap) (i j : Nat) (k : Blk), ids.Nodup → ids[i]? = some j → ks[i]? = some k → j < H.length → (setL H ids ks)[j]? = some k
  | [], _, _, i, _, _, _, h, _, _ => by simp at h
  | _ :: _, [], _, _, _, _, _, _, h, _ => by simp at h
  | id :: ids, k' :: ks, H, 0, j, k, hn, h1, h2, hj => by
    simp at h1 h2
    subst h1; subst h2
    rw [setL, setL_out _ _ _ _ (List.nodup_cons.1 hn).1, List.getElem?_set_self hj]
  | id :: ids, k' :: ks, H, i + 1, j, k, hn, h1, h2, hj => by
    rw [setL]
    exact setL_in ids ks _ i j k (List.nodup_cons.1 hn).2 (by simpa using h1) (by simpa using h2) (by simpa using hj)

theorem rep_fwd {w A ρ ρ' n n'} {f : Nat → RT} (hf : ∀ i, i < n' → ∃ j, f i = .to j ∧ j < n ∧ ρ j = ρ' i) : ∀ {v u}, Rep w A ρ' n' v u → Rep w A ρ n (v.ren f) u := by
  intro v u h
  induction h with
  | st h => rw [V.ren_static _ _ h.static]; exact .st h
  | agg h1 _ ih =>
    refine .agg (by rw [V.rens_map]; simpa using h1) fun i c u hc hu => ?_
    rw [V.rens_map, List.getElem?_map] at hc
    obtain ⟨c', hc', rfl⟩ := Option.map_eq_some_iff.1 hc
    exact ih i c' u hc' hu
  | tup h1 _ ih =>
    refine .tup (by rw [V.rens_map]; simpa using h1) fun i c u hc hu => ?_
    rw [V.rens_map, List.getElem?_map] at hc
    obtain ⟨c', hc', rfl⟩ := Option.map_eq_some_iff.1 hc
    exact ih i c' u hc' hu
  | iface _ ih => exact .iface ih
  | fn h1 _ ih =>
    refine .fn (by rw [V.rens_map]; simpa using h1) fun i c u hc hu => ?_
    rw [V.rens_map, List.getElem?_map] at hc
    obtain ⟨c', hc', rfl⟩ := Option.map_eq_some_iff.1 hc
    exact ih i c' u hc' hu
  | @ref1 id off len cap o q1 q2 q3 q4 q5 =>
    obtain ⟨j, h1, h2, h3⟩ := hf id q1
    rw [V.ren, h1]
    rw [← h3] at q2 q4 q5 ⊢
    exact .ref1 h2 q2 q3 q4 q5
  | @ref0 id q1 q2 =>
    obtain ⟨j, h1, h2, h3⟩ := hf id q1
    rw [V.ren, h1]
    rw [← h3] at q2
    exact .ref0 h2 q2
  | @ptr id i j' q1 q2 =>
    obtain ⟨j, h1, h2, h3⟩ := hf id q1
    rw [V.ren, h1]
    rw [← h3] at q2 ⊢
    exact .ptr h2 q2

theorem Rep.of_flat {w w' A A' ρ n v u} (h : Rep w A ρ n v u) : v.flat = true → Rep w' A' ρ n v u := by
  induction h with
  | st h => intro hf; exact .st (h.of_flat hf)
  | agg h1 _ ih => intro hf; exact .agg h1 fun i c u hc hu => ih i c u hc hu (V.flats_iff.1 hf c (List.mem_of_getElem? hc))
  | tup h1 _ ih => intro hf; exact .tup h1 fun i c u hc hu => ih i c u hc hu (V.flats_iff.1 hf c (List.mem_of_getElem? hc))
  | iface _ ih => intro hf; exact .iface (ih hf)
  | fn h1 _ ih => intro hf; exact .fn h1 fun i c u hc hu => ih i c u hc hu (V.flats_iff.1 hf c (List.mem_of_getElem? hc))
  | ref1 q1 q2 q3 q4 q5 => intro _; exact .ref1 q1 q2 q3 q4 q5
  | ref0 q1 q2 => intro _; exact .ref0 q1 q2
  | ptr q1 q2 => intro _; exact .ptr q1 q2

theorem one_fwd {f : Nat → RT} {v : V} (h : v.one = true) : (v.ren f).one = true := by
  cases v <;> first | rfl | (simp [V.one] at h; done) | skip
  · rw [V.ren]
    split
    · rfl
    · split <;> rfl
  · rw [V.ren]
    split <;> rfl

/-- A block that the callee has handed back, in the caller's numbers. -/
theorem blk_back {w A A' ρ ρ' n n' L k} {f : Nat → RT} (hf : ∀ i, i < n' → ∃ j, f i = .to j ∧ j < n ∧ ρ j = ρ' i) (hA : (∀ b, A' b → A b) ∨ k.flat = true) (h : BlkRep w A' ρ' n' L k) : BlkRep w A ρ n L (k.ren f) := by
  have rs : ∀ {rows : List V} {b st s}, ((∀ b, A' b → A b) ∨ V.flats rows = true) → RowsAt (RS w A') w b st s rows → RowsAt (RS w A) w b st s rows := by
    intro rows b st s hA hr
    refine ⟨hr.1, fun i x j c hx hc => ?_⟩
    obtain ⟨u, h1, h2⟩ := hr.2 i x j c hx hc
    refine ⟨u, h1, ?_⟩
    rcases hA with hA | hA
    · exact h2.mono hA fun _ _ => rfl
    · have hx' := V.flats_iff.1 hA x (List.mem_of_getElem? hx)
      refine h2.of_flat ?_
      cases x with
      | agg cs => exact V.flats_iff.1 hx' c (List.mem_of_getElem? hc)
      | _ => obtain ⟨rfl, rfl⟩ := idx_one hc; exact hx'
  cases k with
  | sl nn e s rows =>
    obtain ⟨h1, h2, h3, h4, h5⟩ := h
    exact ⟨h1, h2, h3, h4, fun hn => ⟨(h5 hn).1, (h5 hn).2.1, rs hA (h5 hn).2.2⟩⟩
  | fz nn s rows =>
    obtain ⟨h1, h2, h3, h4⟩ := h
    refine ⟨h1, h2, h3, fun hn => ⟨fun hr => ?_, rs (hA.imp id fun h => by cases h) (h4 hn).2⟩⟩
    rcases hA with hA | hA
    · exact hA _ ((h4 hn).1 hr)
    · cases hA
  | box e v =>
    obtain ⟨h1, h2, h3, h4, h5, h6⟩ := h
    have hl := (ren_cells f v).1
    refine ⟨h1, h2, by rw [hl]; exact h3, by rw [hl]; exact h4, h5, h6.imp fun i x' hx' => ?_⟩
    obtain ⟨rfl, rfl⟩ := idx_one hx'
    have hv := (h6.1 v (by simp)).2
    simp only [V.cellsOk, List.all_eq_true] at hv
    have back : ∀ (j : Nat) c', (v.ren f).cells[j]? = some c' → ∃ c, v.cells[j]? = some c ∧ c' = c.ren f := by
      intro j c' hc'
      have hlt := (List.getElem?_eq_some_iff.1 hc').1
      have hc : v.cells[j]? = some (v.cells[j]'(by omega)) := List.getElem?_eq_getElem _
      have := (ren_cells f v).2 j _ hc
      rw [hc'] at this
      exact ⟨_, hc, Option.some.inj this⟩
    refine ⟨v, rfl, hl, ?_, fun j c' hc' => ?_⟩
    · simp only [V.cellsOk, List.all_eq_true]
      intro c' hc'
      obtain ⟨j, hj⟩ := List.getElem?_of_mem hc'
      obtain ⟨c, hc, rfl⟩ := back j c' hj
      exact one_fwd (hv c (List.mem_of_getElem? hc))
    · obtain ⟨c, hc, rfl⟩ := back j c' hc'
      refine ⟨c, hc, fun u hu => ?_⟩
      rcases hA with hA | hA
      · exact rep_fwd hf (hu.mono hA (fun _ _ => rfl) (Nat.le_refl _) (fun _ _ => rfl))
      · refine rep_fwd hf (hu.of_flat ?_)
        have hA : v.flat = true := hA
        cases v with
        | agg cs => exact V.flats_iff.1 hA c (List.mem_of_getElem? hc)
        | _ => obtain ⟨rfl, rfl⟩ := idx_one hc; exact hA
  | dead => trivial

end Go.Sim

namespace Go.Sim

/-- A call of function `k`: what of the heap is handed on, how it is seen, what comes back. -/
def pCall (P : Program) (k : FuncId) (args : List V) (H : Heap) (K : V → Heap → Prop) : Prop :=
  ∃ (fl : List Nat) (lend : Bool) (vw ids : List Nat) (args' : List V) (Hs : Heap),
    ids.Nodup ∧ (∀ k ∈ Hs, k ≠ .dead) ∧ Sub lend (frzL H fl) vw (ids.map .to) Hs ∧
    args.map (·.view (vwOf (frzL H fl) vw)) = args'.map (·.ren (toF (ids.map .to))) ∧ V.wfs ids.length args' = true ∧
    Ct P k args' Hs (fun r H' => (lend = true → r.flat = true ∧ ∀ k ∈ H', k.flat = true) ∧ K (r.ren (backF ids H.length)) (mergeH (frzL H fl) ids H'))

theorem mergeH_get {H : Heap} {ids : List Nat} {H' : Heap} (hn : ids.Nodup) (hlt : ∀ j ∈ ids, j < H.length) (hl : ids.length ≤ H'.length) (j : Nat) :
    (mergeH H ids H').length = H.length + (H'.length - ids.length) ∧
    (∀ (i : Nat), ids[i]? = some j → (mergeH H ids H')[j]? = (H'[i]?).map (Blk.ren (backF ids H.length))) ∧
    (j ∉ ids → j < H.length → (mergeH H ids H')[j]? = H[j]?) ∧
    ((mergeH H ids H')[H.length + j]? = (H'[ids.length + j]?).map (Blk.ren (backF ids H.length))) := by
  have hsl : ∀ ks, (setL H ids ks).length = H.length := fun ks => setL_length ids ks H
  refine ⟨by simp [mergeH, hsl], fun i hi => ?_, fun hj hlt' => ?_, ?_⟩
  · have hjl := hlt j (List.mem_of_getElem? hi)
    have hil := (List.getElem?_eq_some_iff.1 hi).1
    unfold mergeH
    rw [List.getElem?_append_left (by rw [hsl]; exact hjl)]
    have hk : H'[i]? = some (H'[i]'(by omega)) := List.getElem?_eq_getElem _
    rw [setL_in ids _ H i j ((H'[i]'(by omega)).ren (backF ids H.length)) hn hi (by rw [List.getElem?_map, hk]; rfl) hjl, hk]
    rfl
  · unfold mergeH
    rw [List.getElem?_append_left (by rw [hsl]; exact hlt'), setL_out _ _ _ _ hj]
  · unfold mergeH
    rw [List.getElem?_append_right (by rw [hsl]; omega), hsl, List.getElem?_map, List.getElem?_drop]
    congr 2
    omega

theorem toMap_some {ids : List Nat} {i : Nat} {r : RT} (h : (ids.map RT.to)[i]? = some r) : ∃ j, ids[i]? = some j ∧ r = .to j := by
  rw [List.getElem?_map] at h
  obtain ⟨j, h1, rfl⟩ := Option.map_eq_some_iff.1 h
  exact ⟨j, h1, rfl⟩

theorem loc_ids {ρ : Nat → Loc} {ids : List Nat} {i j : Nat} (h : ids[i]? = some j) : locOf ρ (ids.map .to) i = ρ j := by
  have : toF (ids.map RT.to) i = .to j := toF_some (by rw [List.getElem?_map, h]; rfl)
  simp [locOf, this]

theorem sub_ids {lend : Bool} {H : Heap} {vw ids : List Nat} {Hs : Heap} (hS : Sub lend H vw (ids.map .to) Hs) (hd : ∀ k ∈ Hs, k ≠ .dead) {i j : Nat} (h : ids[i]? = some j) : ∃ k, Hs[i]? = some k ∧ j < H.length ∧ (LiveAt Hs i ↔ LiveAt H j) := by
  have hi := (List.getElem?_eq_some_iff.1 h).1
  have hl : Hs.length = ids.length := by rw [hS.len]; simp
  have hk : Hs[i]? = some (Hs[i]'(by omega)) := List.getElem?_eq_getElem _
  refine ⟨_, hk, ?_⟩
  rcases hS.blk i _ hk with e | ⟨j', k', h1, h2, h3, h4⟩ | ⟨s, e, h1, _⟩
  · exact absurd e (hd _ (List.getElem_mem _))
  · obtain ⟨j2, h5, h6⟩ := toMap_some h1
    cases h6
    rw [h] at h5; cases h5
    refine ⟨(List.getElem?_eq_some_iff.1 h2).1, ?_⟩
    have hlv : (Hs[i]'(by omega)).live = k'.live := by
      generalize (Hs[i]'(by omega)) = q at h3
      cases q <;> cases k' <;> simp [Blk.view, Blk.ren] at h3 <;> simp_all [Blk.live]
    exact ⟨fun ⟨q, hq, hql⟩ => ⟨k', h2, by rw [hk] at hq; cases hq; rw [← hlv]; exact hql⟩, fun ⟨q, hq, hql⟩ => ⟨_, hk, by rw [h2] at hq; cases hq; rw [hlv]; exact hql⟩⟩
  · obtain ⟨j2, h5, h6⟩ := toMap_some h1
    cases h6

theorem merge_sound {w A ρ H} (h : HR w A ρ H) {lend : Bool} {vw ids : List Nat} {Hs : Heap} (hnd : ids.Nodup) (hdead : ∀ k ∈ Hs, k ≠ .dead) (hS : Sub lend H vw (ids.map .to) Hs)
    {w' A' ρ' H'} (h' : HR w' A' ρ' H') (he : Ext w (lentA A ρ H lend vw) (locOf ρ (ids.map .to)) Hs w' A' ρ' H') (hfl : lend = true → ∀ k ∈ H', k.flat = true) :
    ∃ A2 ρ2, HR w' A2 ρ2 (mergeH H ids H') ∧ Ext w A ρ H w' A2 ρ2 (mergeH H ids H') ∧
      ∀ r u, (lend = true → r.flat = true) → Rep w' A' ρ' H'.length r u → Rep w' A2 ρ2 (mergeH H ids H').length (r.ren (backF ids H.length)) u := by
  have hsl : Hs.length = ids.length := by rw [hS.len]; simp
  have hlt : ∀ j ∈ ids, j < H.length := by
    intro j hj
    obtain ⟨i, hi⟩ := List.getElem?_of_mem hj
    exact (sub_ids hS hdead hi).choose_spec.2.1
  have hHl : ids.length ≤ H'.length := by have := he.len; omega
  have hM := mergeH_get hnd hlt hHl
  let ρ2 : Nat → Loc := fun i => if i < H.length then ρ i else ρ' (ids.length + (i - H.length))
  let A2 : Nat → Prop := fun b => A b ∨ (lend = false ∧ A' b)
  have hρ2 : ∀ i, i < H.length → ρ2 i = ρ i := fun i hi => by simp [ρ2, hi]
  have hback : ∀ i, i < H'.length → ∃ j, backF ids H.length i = .to j ∧ j < (mergeH H ids H').length ∧ ρ2 j = ρ' i := by
    intro i hi
    unfold backF
    by_cases hid : i < ids.length
    · have hj : ids[i]? = some ids[i] := List.getElem?_eq_getElem hid
      rw [hj]
      have hjl := hlt _ (List.getElem_mem hid)
      refine ⟨_, rfl, by rw [(hM 0).1]; omega, ?_⟩
      rw [hρ2 _ hjl, he.loc i (by omega), loc_ids hj]
    · rw [List.getElem?_eq_none (by omega)]
      refine ⟨_, rfl, by rw [(hM 0).1]; omega, ?_⟩
      simp only [ρ2]
      rw [if_neg (by omega)]
      congr 1
      omega
  -- a live block of the callee's is a block that was handed on, or a new one
  have callee : ∀ p, LiveAt H' p → (∃ j, LiveAt H j ∧ j ∈ ids ∧ (ρ' p).b = (ρ j).b) ∨ w.heap.size ≤ (ρ' p).b := by
    intro p hp
    rcases he.own p hp with ⟨q, hq, e⟩ | hle
    · have hql : q < ids.length := by have := hq.lt; omega
      have hj : ids[q]? = some ids[q] := List.getElem?_eq_getElem hql
      obtain ⟨_, _, _, hiff⟩ := sub_ids hS hdead hj
      exact .inl ⟨_, hiff.1 hq, List.getElem_mem hql, by rw [e, loc_ids hj]⟩
    · exact .inr hle
  have same : ∀ b, b < w.heap.size → (∀ j ∈ ids, LiveAt H j → b ≠ (ρ j).b) → w'.heap[b]? = w.heap[b]? := by
    intro b hb hn
    refine he.blk b hb fun q hq e => ?_
    have hql : q < ids.length := by have := hq.lt; omega
    have hj : ids[q]? = some ids[q] := List.getElem?_eq_getElem hql
    obtain ⟨_, _, _, hiff⟩ := sub_ids hS hdead hj
    exact hn _ (List.getElem_mem hql) (hiff.1 hq) (by rw [e, loc_ids hj])
  have hAw : ∀ b, A b → w'.heap[b]? = w.heap[b]? := fun b hb => same b (h.lt b hb) fun j _ hl e => h.out j hl (e ▸ hb)
  -- where an id of the merged heap comes from
  have from_ : ∀ i k, (mergeH H ids H')[i]? = some k → (∃ p k', H'[p]? = some k' ∧ k = k'.ren (backF ids H.length) ∧ ρ2 i = ρ' p ∧ backF ids H.length p = .to i) ∨ (i ∉ ids ∧ i < H.length ∧ H[i]? = some k) := by
    intro i k hk
    have hil := (List.getElem?_eq_some_iff.1 hk).1
    rw [(hM 0).1] at hil
    by_cases hi : i < H.length
    · by_cases hid : i ∈ ids
      · obtain ⟨p, hp⟩ := List.getElem?_of_mem hid
        rw [(hM i).2.1 p hp] at hk
        obtain ⟨k', h1, rfl⟩ := Option.map_eq_some_iff.1 hk
        have hpl := (List.getElem?_eq_some_iff.1 hp).1
        exact .inl ⟨p, k', h1, rfl, by rw [hρ2 i hi, he.loc p (by omega), loc_ids hp], by simp [backF, hp]⟩
      · rw [(hM i).2.2.1 hid hi] at hk
        exact .inr ⟨hid, hi, hk⟩
    · have e : i = H.length + (i - H.length) := by omega
      rw [e, (hM (i - H.length)).2.2.2] at hk
      obtain ⟨k', h1, rfl⟩ := Option.map_eq_some_iff.1 hk
      refine .inl ⟨_, k', h1, rfl, by simp only [ρ2]; rw [if_neg hi], ?_⟩
      have hq : backF ids H.length (ids.length + (i - H.length)) = .to (H.length + (ids.length + (i - H.length) - ids.length)) := by
        unfold backF
        rw [List.getElem?_eq_none (by omega)]
      rw [hq]
      congr 1
      omega
  have liveRen : ∀ k : Blk, (k.ren (backF ids H.length)).live = k.live := fun k => by cases k <;> rfl
  have liveFrom : ∀ i, LiveAt (mergeH H ids H') i → (∃ p, LiveAt H' p ∧ ρ2 i = ρ' p ∧ backF ids H.length p = .to i) ∨ (i ∉ ids ∧ LiveAt H i ∧ ρ2 i = ρ i) := by
    rintro i ⟨k, hk, hl⟩
    rcases from_ i k hk with ⟨p, k', h1, rfl, h2, h3⟩ | ⟨h1, h2, h3⟩
    · exact .inl ⟨p, ⟨k', h1, by rw [← liveRen]; exact hl⟩, h2, h3⟩
    · exact .inr ⟨h1, ⟨k, h3, hl⟩, hρ2 i h2⟩
  have mixed : ∀ i p, i ∉ ids → LiveAt H i → LiveAt H' p → (ρ i).b ≠ (ρ' p).b := by
    intro i p hi hl hp e
    rcases callee p hp with ⟨j, hj, hjm, e'⟩ | hle
    · exact h.sep i j hl hj (by rintro rfl; exact hi hjm) (e.trans e')
    · have := h.live_lt hl; omega
  refine ⟨A2, ρ2, ⟨fun i k hk => ?_, fun i j hi hj hne => ?_, fun i hi ha => ?_, fun b hb => ?_⟩, ?_, fun r u hr hrep => ?_⟩
  · rcases from_ i k hk with ⟨p, k', h1, rfl, h2, h3⟩ | ⟨h1, h2, h3⟩
    · rw [h2]
      refine blk_back hback ?_ (h'.rep p k' h1)
      cases lend with
      | true => exact .inr (hfl rfl k' (List.mem_of_getElem? h1))
      | false => exact .inl fun b hb => .inr ⟨rfl, hb⟩
    · rw [hρ2 i h2]
      refine (h.rep i k h3).mono (fun _ h => .inl h) hAw (fun hl => ?_) (by rw [(hM 0).1]; omega) hρ2
      exact same _ (h.live_lt ⟨k, h3, hl⟩) fun j hj hjl e => h.sep i j ⟨k, h3, hl⟩ hjl (by rintro rfl; exact h1 hj) e
  · rcases liveFrom i hi with ⟨p, hp, e1, f1⟩ | ⟨n1, l1, e1⟩ <;> rcases liveFrom j hj with ⟨q, hq, e2, f2⟩ | ⟨n2, l2, e2⟩ <;> rw [e1, e2]
    · refine h'.sep p q hp hq ?_
      rintro rfl
      rw [f1] at f2
      cases f2
      exact hne rfl
    · exact fun e => mixed j p n2 l2 hp e.symm
    · exact mixed i q n1 l1 hq
    · exact h.sep i j l1 l2 hne
  · rcases liveFrom i hi with ⟨p, hp, e1, _⟩ | ⟨n1, l1, e1⟩ <;> rw [e1] at ha
    · rcases ha with ha | ⟨_, ha⟩
      · rcases callee p hp with ⟨j, hj, _, e⟩ | hle
        · exact h.out j hj (e ▸ ha)
        · have := h.lt _ ha; omega
      · exact h'.out p hp ha
    · rcases ha with ha | ⟨hl, ha⟩
      · exact h.out i l1 ha
      · rcases he.adm _ ha with h1 | ⟨q, hq, e⟩ | hle
        · rcases h1 with h1 | ⟨h1, _⟩
          · exact h.out i l1 h1
          · rw [hl] at h1; cases h1
        · have hql : q < ids.length := by have := hq.lt; omega
          have hj : ids[q]? = some ids[q] := List.getElem?_eq_getElem hql
          obtain ⟨_, _, _, hiff⟩ := sub_ids hS hdead hj
          exact h.sep i _ l1 (hiff.1 hq) (by rintro e'; exact n1 (e' ▸ List.getElem_mem hql)) (by rw [e, loc_ids hj])
        · have := h.live_lt l1; omega
  · rcases hb with hb | ⟨_, hb⟩
    · exact Nat.lt_of_lt_of_le (h.lt b hb) he.size
    · exact h'.lt b hb
  · exact {
      rep := fun v u hr => hr.mono (fun _ h => .inl h) hAw (by rw [(hM 0).1]; omega) hρ2
      os := he.os, tape := he.tape, output := he.output, size := he.size
      blk := fun b hb hn => same b hb fun j _ hl => hn j hl
      loc := hρ2, len := by rw [(hM 0).1]; omega
      own := fun i hi => by
        rcases liveFrom i hi with ⟨p, hp, e1, _⟩ | ⟨n1, l1, e1⟩ <;> rw [e1]
        · rcases callee p hp with ⟨j, hj, _, e⟩ | hle
          · exact .inl ⟨j, hj, e⟩
          · exact .inr hle
        · exact .inl ⟨i, l1, rfl⟩
      adm := fun b hb => by
        rcases hb with hb | ⟨hl, hb⟩
        · exact .inl hb
        · rcases he.adm _ hb with h1 | ⟨q, hq, e⟩ | hle
          · rcases h1 with h1 | ⟨h1, _⟩
            · exact .inl h1
            · rw [hl] at h1; cases h1
          · have hql : q < ids.length := by have := hq.lt; omega
            have hj : ids[q]? = some ids[q] := List.getElem?_eq_getElem hql
            obtain ⟨_, _, _, hiff⟩ := sub_ids hS hdead hj
            exact .inr (.inl ⟨_, hiff.1 hq, by rw [e, loc_ids hj]⟩)
          · exact .inr (.inr hle) }
  · cases lend with
    | true => exact rep_fwd hback (hrep.of_flat (hr rfl))
    | false => exact rep_fwd hback (hrep.mono (fun b hb => .inr ⟨rfl, hb⟩) (fun _ _ => rfl) (Nat.le_refl _) (fun _ _ => rfl))

/-- The callee, by its contract. -/
theorem sound_call {P : Program} {w A ρ H} (h : HR w A ρ H) {k : FuncId} {args : List V} {us : Array Value} (hs : us.size = args.length) (hr : ∀ (i : Nat) v u, args[i]? = some v → us[i]? = some u → Rep w A ρ H.length v u)
    {K : V → Heap → Prop} (hK : pCall P k args H K) :
    callable P k = true ∧ Calls P k us w fun e w' => ∃ u v H' A' ρ', e = .returned u ∧ K v H' ∧ HR w' A' ρ' H' ∧ Rep w' A' ρ' H'.length v u ∧ Ext w A ρ H w' A' ρ' H' := by
  obtain ⟨fl, lend, vw, ids, args', Hs, hnd, hdead, hS, hargs, hwf, hcal, hct⟩ := hK
  obtain ⟨A1, h1, e1, hl⟩ := frzL_sound (w := w) (ρ := ρ) fl A H h
  obtain ⟨g1, g2⟩ := sub_sound h1 hS
  have hlen : args.length = args'.length := by simpa using congrArg List.length hargs
  refine ⟨hcal, (hct w _ _ us g1 (by omega) fun i v u hv hu => ?_).mono ?_⟩
  · have hil := (List.getElem?_eq_some_iff.1 hv).1
    have ha : args[i]? = some (args[i]'(by omega)) := List.getElem?_eq_getElem _
    have he : (args.map (·.view (vwOf (frzL H fl) vw)))[i]? = (args'.map (·.ren (toF (ids.map .to))))[i]? := by rw [hargs]
    rw [List.getElem?_map, List.getElem?_map, ha, hv] at he
    refine g2 (args[i]'(by omega)) v u (e1.rep _ _ (hr i _ u ha hu)) (Option.some.inj he) ?_
    rw [List.length_map]
    exact V.wfs_iff.1 hwf v (List.mem_of_getElem? hv)
  · rintro e w' ⟨u, v, H', A', ρ', rfl, ⟨hf, hK⟩, q1, q2, q3⟩
    obtain ⟨A2, ρ2, m1, m2, m3⟩ := merge_sound h1 hnd hdead hS q1 q3 (fun hl => (hf hl).2)
    rw [hl] at m3
    exact ⟨u, _, _, A2, ρ2, rfl, hK, m1, m3 v u (fun hl => (hf hl).1) q2, e1.trans m2⟩

end Go.Sim

namespace Go.Sim

/-! ## 9. One operation -/
def evArgs (ev : TypeId → Operand → V) : List TypeId → List Operand → List V
  | t :: ts, x :: xs => ev t x :: evArgs ev ts xs
  | [], x :: xs => ev 0 x :: evArgs ev [] xs
  | _, [] => []

def pickV (t : Bool) (a b : V) : V :=
  match a, b with
  | .bool x, .bool y => .bool (bif t then x else y)
  | .int .i64 x, .int .i64 y => .int .i64 (bif t then x else y)
  | a, b => bif t then a else b
theorem pickV_true (a b : V) : pickV true a b = a := by unfold pickV; split <;> rfl
theorem pickV_false (a b : V) : pickV false a b = b := by unfold pickV; split <;> rfl

/-- A slice type's element: its id, cells, bytes. -/
def slT (P : Program) (t : TypeId) : Option (TypeId × Nat × Nat) :=
  match P.underlying t with
  | some (.slice e) => match P.info? e with
    | some i => some (e, i.size, i.bytes)
    | none => none
  | _ => none
def zeroT (P : Program) (t : TypeId) : Option V :=
  match P.info? t with
  | some i => match i.zero with
    | some z => absZ P t z
    | none => none
  | none => none
/-- A struct's field: offset, cells, whether it is itself a struct or an array, its type. -/
def fieldT (P : Program) (t : TypeId) (n : Nat) : Option (Nat × Nat × Bool × TypeId) :=
  match P.underlying t with
  | some (.struct fs) => match fs[n]? with
    | some f => match P.info? f.type, P.underlying f.type with
      | some i, some d => some (f.offset, i.size, isAggD d, f.type)
      | _, _ => none
    | none => none
  | _ => none
def loadT (P : Program) (t : TypeId) : Option (Bool × Nat) :=
  match P.underlying t, P.info? t with
  | some d, some i => some (isAggD d, i.size)
  | _, _ => none
def placesT (P : Program) (t : TypeId) : Bool :=
  match P.underlying t with
  | some (.struct fs) => (fieldPlaces P fs).isSome
  | _ => false

def buildParts (P : Program) (ev : TypeId → Operand → V) (t : TypeId) : List (Nat × Operand) → Option (List (Nat × Nat × V))
  | [] => some []
  | (n, x) :: r => match fieldT P t n, buildParts P ev t r with
    | some (off, sz, _, ft), some ps => some ((off, sz, ev ft x) :: ps)
    | _, _ => none

mutual
theorem view_none {f : Nat → Option (Bool × Nat × List V)} (hf : ∀ i, f i = none) : ∀ v : V, v.view f = v
  | .agg cs => by rw [V.view, views_none hf cs]
  | .tup cs => by rw [V.view, views_none hf cs]
  | .iface t v => by rw [V.view, view_none hf v]
  | .ref id off len => by rw [V.view, hf]
  | .ptr .. => rfl
  | .fn .. => rfl
  | .int .. => rfl
  | .bool .. => rfl
  | .str .. => rfl
  | .sl .. => rfl
  | .nil => rfl
  | .nili => rfl
  | .nilf => rfl
  | .loc .. => rfl
  | .undef => rfl
theorem views_none {f : Nat → Option (Bool × Nat × List V)} (hf : ∀ i, f i = none) : ∀ l : List V, V.views f l = l
  | [] => rfl
  | v :: r => by rw [V.views, view_none hf v, views_none hf r]
end
theorem vwOf_nil {H : Heap} (i : Nat) : vwOf H [] i = none := by simp [vwOf]
theorem map_view_nil {H : Heap} (l : List V) : l.map (·.view (vwOf H [])) = l := by rw [← V.views_map, views_none vwOf_nil]
mutual
/-- The blocks that a value names as slices. -/
def V.ids : V → List Nat
  | .agg cs => V.idss cs
  | .tup cs => V.idss cs
  | .iface _ v => v.ids
  | .fn _ cs => V.idss cs
  | .ref id _ _ => [id]
  | _ => []
def V.idss : List V → List Nat
  | [] => []
  | v :: r => v.ids ++ V.idss r
end

/-- Is what is stored there to be immutable? -/
def wantFz (H : Heap) (p : V) : Bool :=
  match p with
  | .ptr id _ _ => match H[id]? with
    | some (.sl _ _ _ _) => true
    | _ => false
  | _ => false

/-- Blocks given up to the immutable memory, before values are put there. -/
def pFz (fz : Bool) (H : Heap) (vs : List V) (K : List V → Heap → Prop) : Prop :=
  match fz with
  | false => K vs H
  | true => match V.idss vs with
    | [] => K vs H
    | i :: r => K (vs.map (·.view (vwOf (frzL H (i :: r)) (i :: r)))) (frzL H (i :: r))

theorem pFz_ex {fz H vs K} (h : pFz fz H vs K) : ∃ fl : List Nat, K (vs.map (·.view (vwOf (frzL H fl) fl))) (frzL H fl) := by
  unfold pFz at h
  split at h
  · exact ⟨[], by rw [map_view_nil]; exact h⟩
  · split at h
    · exact ⟨[], by rw [map_view_nil]; exact h⟩
    · exact ⟨_, h⟩
theorem pFz_mono {fz H vs} {K K' : List V → Heap → Prop} (hk : ∀ vs H, K vs H → K' vs H) (h : pFz fz H vs K) : pFz fz H vs K' := by
  unfold pFz at h ⊢
  split at h
  · exact hk _ _ h
  · split at h
    · exact hk _ _ h
    · exact hk _ _ h

def bytesV : List V → Option (List Int)
  | [] => some []
  | .int .u8 n :: r => match bytesV r with
    | some ns => some (n :: ns)
    | none => none
  | _ => none
def bytesOf (ns : List Int) : ByteArray := ns.foldl (fun r n => r.push (UInt8.ofNat n.toNat)) ByteArray.empty

def isStr : V → Bool
  | .str _ => true
  | _ => false

def pNil (v : V) (K : V → Prop) : Prop := match v with
  | .fn f cs => K (.fn f cs)
  | .ptr id i j => K (.ptr id i j)
  | .loc s row j => K (.loc s row j)
  | _ => False

def aop (P : Program) (o : Op) (ty : TypeId) (ev : TypeId → Operand → V) (H : Heap) (K : V → Heap → Prop) : Prop :=
  match o with
  | .move x => K (ev ty x) H
  | .assign x => K (ev ty x) H
  | .pick c a b => match ev ty c with
    | .bool t => K (pickV t (ev ty a) (ev ty b)) H
    | _ => False
  | .alloc e => match zeroT P e with
    | some z => pBox e z H K
    | none => False
  | .box e x => pBox e (ev e x) H K
  | .build t parts => match zeroT P t, placesT P t, buildParts P ev t parts.toList with
    | some (.agg vs), true, some ps => pBuild vs ps (fun v => K v H)
    | _, _, _ => False
  | .buildSlice t len parts => match slT P t with
    | some (e, s, _) => match zeroT P e with
      | some z => z.cells.length = s ∧ 0 < s ∧ len * s ≤ 16777216 ∧ pFz true H (parts.toList.map fun p => ev e p.2) (fun vs H' => pBuildSlice e s z len ((parts.toList.map (·.1)).zip vs) H' K)
      | none => False
    | none => False
  | .load t a => match loadT P t with
    | some (ag, sz) => pLoad ag sz (ev 0 a) H (fun v => K v H)
    | none => False
  | .store t a x => match loadT P t with
    | some (_, sz) => pFz (wantFz H (ev 0 a)) H [ev t x] (fun vs H' => match vs with
      | [v] => pStore sz (ev 0 a) v H' (fun H'' => K (.tup []) H'')
      | _ => False)
    | none => False
  | .nilCheck x => pNil (ev ty x) (fun v => K v H)
  | .binOp op t x y _ => pBin (ekOf P t) op (ev t x) (ev t y) H (fun v => K v H)
  | .unOp op _ x => match op, ev ty x with
    | .not, .bool b => K (.bool (!b)) H
    | .neg, .int k n => K (.int k (k.wrap (0 - n))) H
    | _, _ => False
  | .convert src dst x => match P.underlying src, P.underlying dst, ev src x with
    | some _, some (.int k), .int _ n => K (.int k (k.wrap n)) H
    | some .string, some .string, .str s => K (.str s) H
    | some (.slice e), some .string, v => match P.underlying e, elems H v with
      | some (.int .u8), some (s, xs) => s = 1 ∧ (match bytesV xs with
        | some ns => K (.str (bytesOf ns)) H
        | none => False)
      | _, _ => False
    | _, _, _ => False
  | .makeFunc (.func f) first captured => match first.toList with
    | [] => K (.fn f (captured.toList.map (ev 0))) H
    | _ => False
  | .makeSlice t l c => match slT P t with
    | some (e, s, bytes) => match zeroT P e with
      | some z => z.cells.length = s ∧ 0 < s ∧ 0 < bytes ∧ pMakeSlice e s bytes z (ev 3 l) (ev 3 c) H K
      | none => False
    | none => False
  | .slice t x lo hi none => match P.underlying t with
    | some (.slice e) => match P.info? e with
      | some i => isStr (ev t x) = false ∧ pSlice i.size (ev t x) (lo.map (ev 3)) (hi.map (ev 3)) H (fun v => K v H)
      | none => False
    | some .string => isStr (ev t x) = true ∧ pSlice 0 (ev t x) (lo.map (ev 3)) (hi.map (ev 3)) H (fun v => K v H)
    | _ => False
  | .fieldAddr t x n => match fieldT P t n with
    | some (off, sz, _, _) => sz ≠ 0 ∧ pFieldAddr off (ev 0 x) (fun v => K v H)
    | none => False
  | .field t x n => match fieldT P t n, ev t x with
    | some (off, sz, ag, _), .agg cs => match rowGet ag sz (.agg cs) off with
      | some v => K v H
      | none => False
    | _, _ => False
  | .indexAddr t x ix => match slT P t with
    | some (_, s, _) => pIndexAddr s (ev t x) (ev 3 ix) H (fun v => K v H)
    | none => False
  | .index t x ix => match P.underlying t, ev t x, ev 3 ix with
    | some .string, .str s, .int _ n => 0 ≤ n ∧ (match s[n.toNat]? with
      | some b => K (.int .u8 b.toNat) H
      | none => False)
    | _, _, _ => False
  | .extract x i => match ev ty x with
    | .tup vs => match vs[i]? with
      | some v => K v H
      | none => False
    | _ => False
  | .call c => match c.callee with
    | .value f => match ev 0 f with
      | .fn k caps => pCall P k (evArgs ev c.argTypes.toList c.args.toList ++ caps) H K
      | _ => False
    | .builtin .len => match c.argTypes.toList, c.args.toList with
      | [t], [x] => match P.underlying t with
        | some (.slice _) => isStr (ev t x) = false ∧ pLen (ev t x) (fun v => K v H)
        | some .string => isStr (ev t x) = true ∧ pLen (ev t x) (fun v => K v H)
        | _ => False
      | _, _ => False
    | .builtin .append => match c.argTypes.toList, c.args.toList with
      | [t, t'], [x, y] => match slT P t with
        | some (e, s, bytes) => match zeroT P e with
          | some z => t = t' ∧ z.cells.length = s ∧ 0 < s ∧ 0 < bytes ∧ pAppend e s bytes (ev t x) (ev t y) H K
          | none => False
        | none => False
      | _, _ => False
    | .builtin .min => match c.args.toList with
      | [x, y] => match ev ty x, ev ty y with
        | .int k a, .int _ b => K (.int k (if b < a then b else a)) H
        | _, _ => False
      | _ => False
    | .builtin .max => match c.args.toList with
      | [x, y] => match ev ty x, ev ty y with
        | .int k a, .int _ b => K (.int k (if b > a then b else a)) H
        | _, _ => False
      | _ => False
    | .builtin .clear => match c.argTypes.toList, c.args.toList with
      | [t], [x] => match slT P t with
        | some (e, s, _) => match zeroT P e with
          | some z => z.cells.length = s ∧ 0 < s ∧ pClear s (ev t x) H K
          | none => False
        | none => False
      | _, _ => False
    | _ => False
  | _ => False

/-- What a step comes to. -/
def OkN (P : Program) (w : World) (A : Nat → Prop) (ρ : Nat → Loc) (H : Heap) (s : Sem Next) (K : V → Heap → Prop) : Prop :=
  (∃ u w' v H' A' ρ', s.run P w = .ok (.value u) w' ∧ K v H' ∧ HR w' A' ρ' H' ∧ Rep w' A' ρ' H'.length v u ∧ Ext w A ρ H w' A' ρ' H') ∨
  (∃ w' v H' A' ρ', s.run P w = .ok .skip w' ∧ K v H' ∧ HR w' A' ρ' H' ∧ Rep w' A' ρ' H'.length v Go.undef ∧ Ext w A ρ H w' A' ρ' H') ∨
  (∃ k us, s.run P w = .ok (.enter k us) w ∧ Calls P k us w fun e w' => ∃ u v H' A' ρ', e = .returned u ∧ K v H' ∧ HR w' A' ρ' H' ∧ Rep w' A' ρ' H'.length v u ∧ Ext w A ρ H w' A' ρ' H')

theorem OkN.of1 {P w A ρ H} {s : Sem Value} {K} (h : Ok1 P w A ρ H s K) : OkN P w A ρ H (do pure (.value (← s))) K := by
  obtain ⟨u, w', v, H', A', ρ', h1, h2⟩ := h
  exact .inl ⟨u, w', v, H', A', ρ', by simp [h1], h2⟩

theorem OkN.pure {P w A ρ H} {s : Sem Value} {K} {v u} (h : HR w A ρ H) (hs : s.run P w = .ok u w) (hv : Rep w A ρ H.length v u) (hk : K v H) : OkN P w A ρ H (do Pure.pure (.value (← s))) K :=
  .of1 (Ok1.still h hs hv hk)

theorem Rep.unit {w A ρ n} : Rep w A ρ n (.tup []) Go.undef := .tup rfl fun i c u h => by simp at h

theorem slT_some {P t e s b} (h : slT P t = some (e, s, b)) : ∃ i, P.underlying t = some (.slice e) ∧ P.info? e = some i ∧ i.size = s ∧ i.bytes = b := by
  unfold slT at h
  split at h
  · split at h
    · rename_i h1 _ i h2
      cases h
      exact ⟨i, h1, h2, rfl, rfl⟩
    · cases h
  · cases h
theorem zeroT_some {P t v} (h : zeroT P t = some v) : ∃ i z, P.info? t = some i ∧ i.zero = some z ∧ absZ P t z = some v := by
  unfold zeroT at h
  split at h
  · split at h
    · rename_i i h1 _ z h2
      exact ⟨i, z, h1, h2, h⟩
    · cases h
  · cases h
theorem fieldT_some {P t n off sz ag ft} (h : fieldT P t n = some (off, sz, ag, ft)) : ∃ fs f i d, P.underlying t = some (.struct fs) ∧ fs[n]? = some f ∧ P.info? f.type = some i ∧ P.underlying f.type = some d ∧ f.offset = off ∧ i.size = sz ∧ isAggD d = ag ∧ f.type = ft := by
  unfold fieldT at h
  split at h
  · split at h
    · split at h
      · rename_i fs h1 _ f h2 _ _ i d h3 h4
        cases h
        exact ⟨fs, f, i, d, h1, h2, h3, h4, rfl, rfl, rfl, rfl⟩
      · cases h
    · cases h
  · cases h
theorem loadT_some {P t ag sz} (h : loadT P t = some (ag, sz)) : ∃ d i, P.underlying t = some d ∧ P.info? t = some i ∧ isAggD d = ag ∧ i.size = sz := by
  unfold loadT at h
  split at h
  · rename_i d i h1 h2
    cases h
    exact ⟨d, i, h1, h2, rfl, rfl⟩
  · cases h

theorem frzL_not (fl : List Nat) (H : Heap) {id : Nat} (hid : id ∈ fl) : ∀ e s rows, (frzL H fl)[id]? ≠ some (.sl true e s rows) := by
  have key : ∀ (l : List Nat) (H : Heap), id ∈ l → ∀ e s rows, (frzL H l)[id]? ≠ some (.sl true e s rows) := by
    intro l
    have keep : ∀ (l : List Nat) (H : Heap), (∀ e s rows, H[id]? ≠ some (.sl true e s rows)) → ∀ e s rows, (frzL H l)[id]? ≠ some (.sl true e s rows) := by
      intro l
      induction l with
      | nil => intro H h; exact h
      | cons a l ih =>
        intro H h
        rw [frzL]
        refine ih _ fun e s rows => ?_
        unfold frz1
        split
        · by_cases ha : a = id
          · subst ha
            intro hc
            rename_i hk
            rw [List.getElem?_set_self', hk] at hc
            cases hc
          · rw [List.getElem?_set_ne ha]; exact h e s rows
        · exact h e s rows
    induction l with
    | nil => intro H h; cases h
    | cons a l ih =>
      intro H hm
      rw [frzL]
      rcases List.mem_cons.1 hm with rfl | hm
      · refine keep l _ fun e s rows hc => ?_
        unfold frz1 at hc
        split at hc
        · rename_i hk
          rw [List.getElem?_set_self', hk] at hc
          cases hc
        · rename_i hk
          exact hk _ _ _ _ hc
      · exact ih _ hm
  exact key fl H hid

theorem frzL_view {w A ρ H fl} (h : HR w A ρ H) : ∃ A', HR w A' ρ (frzL H fl) ∧ Ext w A ρ H w A' ρ (frzL H fl) ∧ (frzL H fl).length = H.length ∧ ∀ v u, Rep w A ρ H.length v u → Rep w A' ρ (frzL H fl).length (v.view (vwOf (frzL H fl) fl)) u := by
  obtain ⟨A1, h1, e1, hl⟩ := frzL_sound fl A H h
  refine ⟨A1, h1, e1, hl, fun v u hr => ?_⟩
  refine rep_view h1 (fun _ h => h) (fun id e s rows hid hk0 => ?_) (e1.rep v u hr)
  exfalso
  exact frzL_not fl H hid e s rows hk0

end Go.Sim

namespace Go.Sim

theorem rep_evArgs {w A ρ n} {ev : TypeId → Operand → V} {σ : Operand → Value} (hev : ∀ t x, Rep w A ρ n (ev t x) (σ x)) : ∀ (xs : List Operand) (ts : List TypeId), (evArgs ev ts xs).length = xs.length ∧ ∀ (i : Nat) v u, (evArgs ev ts xs)[i]? = some v → (xs.map σ)[i]? = some u → Rep w A ρ n v u
  | [], ts => ⟨by cases ts <;> rfl, fun i v u h _ => by cases ts <;> simp [evArgs] at h⟩
  | x :: xs, [] => by
    obtain ⟨h1, h2⟩ := rep_evArgs hev xs []
    refine ⟨by simp [evArgs, h1], fun i v u hv hu => ?_⟩
    cases i with
    | zero => simp [evArgs] at hv hu; subst hv; subst hu; exact hev _ _
    | succ i => exact h2 i v u (by simpa [evArgs] using hv) (by simpa using hu)
  | x :: xs, t :: ts => by
    obtain ⟨h1, h2⟩ := rep_evArgs hev xs ts
    refine ⟨by simp [evArgs, h1], fun i v u hv hu => ?_⟩
    cases i with
    | zero => simp [evArgs] at hv hu; subst hv; subst hu; exact hev _ _
    | succ i => exact h2 i v u (by simpa [evArgs] using hv) (by simpa using hu)

theorem isStr_true {v : V} (h : isStr v = true) : ∃ s, v = .str s := by cases v <;> simp [isStr] at h; exact ⟨_, rfl⟩
theorem isStr_false {v : V} (h : isStr v = false) (s : ByteArray) : v ≠ .str s := by rintro rfl; cases h

theorem run_zero {P : Program} {w : World} {t i z} (h1 : P.info? t = some i) (h2 : i.zero = some z) : (zeroValue t).run P w = .ok z w := by
  simp [zeroValue, typeInfo, h1, h2]

theorem mapM_idx {α β : Type} {f : α → Option β} : ∀ {l : List α} {r : List β}, l.mapM f = some r → ∀ (i : Nat) x, l[i]? = some x → ∃ y, f x = some y ∧ r[i]? = some y
  | [], r, h, i, x, hx => by simp at hx
  | a :: l, r, h, i, x, hx => by
    rw [List.mapM_cons] at h
    cases ha : f a with
    | none => simp [ha] at h
    | some b =>
      cases hl : l.mapM f with
      | none => simp [ha, hl] at h
      | some bs =>
        simp [ha, hl] at h
        subst h
        cases i with
        | zero => simp at hx; subst hx; exact ⟨b, ha, rfl⟩
        | succ i => exact mapM_idx hl i x (by simpa using hx)

theorem buildParts_some {P : Program} {ev : TypeId → Operand → V} {σ : Operand → Value} {w A ρ n} (hev : ∀ t x, Rep w A ρ n (ev t x) (σ x)) {t fs places} (hU : P.underlying t = some (.struct fs)) (hp : fieldPlaces P fs = some places) :
    ∀ (l : List (Nat × Operand)) (ps : List (Nat × Nat × V)), buildParts P ev t l = some ps →
      (l.map fun p => (p.1, σ p.2)).length = ps.length ∧ ∀ (k : Nat) p u, ps[k]? = some p → (l.map fun p => (p.1, σ p.2))[k]? = some u → places[u.1]? = some (p.1, p.2.1) ∧ Rep w A ρ n p.2.2 u.2
  | [], ps, h => by cases h; exact ⟨rfl, fun k p u h => by simp at h⟩
  | (m, x) :: l, ps, h => by
    simp only [buildParts] at h
    split at h
    · rename_i off sz ag ft ps' h1 h2
      cases h
      obtain ⟨g1, g2⟩ := buildParts_some hev hU hp l ps' h2
      refine ⟨by simp at g1 ⊢; omega, fun k p u hk hu => ?_⟩
      cases k with
      | zero =>
        simp at hk hu
        subst hk; subst hu
        obtain ⟨fs', f, i, d, q1, q2, q3, q4, q5, q6, q7, q8⟩ := fieldT_some h1
        rw [hU] at q1; cases q1
        refine ⟨?_, hev _ _⟩
        unfold fieldPlaces at hp
        obtain ⟨y, y1, y2⟩ := mapM_idx hp m f (by simpa using q2)
        rw [q3] at y1
        simp only [Option.map_some, Option.some.injEq] at y1
        rw [y2, ← y1, q5, q6]
      | succ k => exact g2 k p u (by simpa using hk) (by simpa using hu)
    · cases h

theorem bytesV_map : ∀ {xs : List V} {ns : List Int}, bytesV xs = some ns → xs = ns.map (V.int .u8)
  | [], ns, h => by cases h; rfl
  | x :: xs, ns, h => by
    cases x with
    | int k n =>
      cases k <;> simp only [bytesV] at h <;> try cases h
      split at h
      · rename_i ns' h1
        cases h
        rw [bytesV_map h1]; rfl
      · cases h
    | _ => simp [bytesV] at h

theorem run_minmax {P : Program} {w : World} (a b : Int) (k k' : IntKind) :
    (Builtin.min_ #[] 0 #[.int k a, .int k' b]).run P w = .ok (.int k (if b < a then b else a)) w ∧ (Builtin.max_ #[] 0 #[.int k a, .int k' b]).run P w = .ok (.int k (if b > a then b else a)) w := by
  constructor
  · simp [Builtin.min_, Builtin.min2]
  · simp [Builtin.max_, Builtin.max2]

theorem aop_sound {P : Program} {w A ρ H} (h : HR w A ρ H) {ev : TypeId → Operand → V} {σ : Operand → Value} (hev : ∀ t x, Rep w A ρ H.length (ev t x) (σ x)) (o : Oper) {K : V → Heap → Prop} (hK : aop P o.op o.type ev H K) :
    OkN P w A ρ H (execOp σ o) K := by
  obtain ⟨dst, op, ty, pos, after, guard⟩ := o
  unfold execOp
  cases op <;> simp only [aop] at hK ⊢
  case move x => exact .inl ⟨σ x, w, _, H, A, ρ, rfl, hK, h, hev _ _, Ext.refl _ _ _ _⟩
  case assign x => exact .inl ⟨σ x, w, _, H, A, ρ, rfl, hK, h, hev _ _, Ext.refl _ _ _ _⟩
  case pick c a b =>
    split at hK
    · rename_i t ht
      have hc := hev ty c
      rw [ht] at hc
      have hc := hc.bool_inv
      refine .inl ⟨if t then σ a else σ b, w, _, H, A, ρ, by simp [hc, asBool], hK, h, ?_, Ext.refl _ _ _ _⟩
      cases t
      · rw [pickV_false]; exact hev _ _
      · rw [pickV_true]; exact hev _ _
    · exact hK.elim
  case alloc e =>
    split at hK
    · rename_i z hz
      obtain ⟨i, z', h1, h2, h3⟩ := zeroT_some hz
      refine .of1 ?_
      have := sound_box (P := P) h (e := e) (Rep.st ((absZ_rs h3).1 w A)) hK
      unfold Ok1 at this ⊢
      have hr : (Instr.alloc e true (.tuple #[])).run P w = (Instr.box e z').run P w := by
        simp [Instr.alloc, Instr.box, run_zero h1 h2]
      rw [hr]
      exact this
    · exact hK.elim
  case box e x => exact .of1 (sound_box h (hev _ _) hK)
  case build t parts =>
    split at hK
    · rename_i vs ps hz hpl hps
      obtain ⟨i, z', h1, h2, h3⟩ := zeroT_some hz
      unfold placesT at hpl
      split at hpl
      · rename_i fs hU
        obtain ⟨places, hp⟩ := Option.isSome_iff_exists.1 hpl
        obtain ⟨g1, g2⟩ := buildParts_some hev hU hp _ _ hps
        have := sound_build (P := P) h hU h1 h2 h3 hp g1 g2 hK
        refine .of1 ?_
        have he : (parts.map fun x => (x.1, σ x.2)) = (parts.toList.map fun p => (p.1, σ p.2)).toArray := by rw [← Array.toList_map, Array.toArray_toList]
        rw [he]
        exact this
      · cases hpl
    · exact hK.elim
  case buildSlice t len parts =>
    split at hK
    · rename_i e s by' hs
      split at hK
      · rename_i z hz
        obtain ⟨c1, c2, c3, hK⟩ := hK
        obtain ⟨fl, hK⟩ := pFz_ex hK
        obtain ⟨i, q1, q2, q3, q4⟩ := slT_some hs
        obtain ⟨i', z', h1, h2, h3⟩ := zeroT_some hz
        rw [q2] at h1; cases h1
        obtain ⟨A1, f1, f2, f3, f4⟩ := frzL_view (fl := fl) h
        have := sound_buildSlice (P := P) f1 (len := len) q1 q2 q3 h2 h3 c1 c2 c3 (us := parts.toList.map fun p => (p.1, σ p.2)) (by simp) (fun k p u hp hu => ?_) hK
        · refine .of1 ?_
          have he : (parts.map fun x => (x.1, σ x.2)) = (parts.toList.map fun p => (p.1, σ p.2)).toArray := by rw [← Array.toList_map, Array.toArray_toList]
          rw [he]
          obtain ⟨u, w', v, H', A', ρ', r1, r2, r3, r4, r5⟩ := this
          exact ⟨u, w', v, H', A', ρ', r1, r2, r3, r4, f2.trans r5⟩
        · rw [List.getElem?_map] at hu
          obtain ⟨p0, hp0, rfl⟩ := Option.map_eq_some_iff.1 hu
          rw [List.getElem?_zip_eq_some] at hp
          obtain ⟨e1, e2⟩ := hp
          rw [List.getElem?_map, hp0] at e1
          rw [List.map_map, List.getElem?_map, hp0] at e2
          simp only [Option.map_some, Option.some.injEq] at e1 e2
          rw [← e1, ← e2]
          exact ⟨rfl, f4 _ _ (hev _ _)⟩
      · exact hK.elim
    · exact hK.elim
  case load t a =>
    split at hK
    · rename_i ag sz hl
      obtain ⟨d, i, g1, g2, g3, g4⟩ := loadT_some hl
      exact .of1 (sound_load h g1 g3 g2 g4 (hev _ _) hK)
    · exact hK.elim
  case store t a x =>
    split at hK
    · rename_i ag sz hl
      obtain ⟨d, i, g1, g2, g3, g4⟩ := loadT_some hl
      obtain ⟨fl, hK⟩ := pFz_ex hK
      obtain ⟨A1, f1, f2, f3, f4⟩ := frzL_view (fl := fl) h
      simp only [List.map_cons, List.map_nil] at hK
      obtain ⟨w', H', A', ρ', r1, r2, r3, r4⟩ := sound_store (P := P) f1 g2 g4 (f2.rep _ _ (hev 0 a)) (f4 _ _ (hev t x)) hK
      exact .inr (.inl ⟨w', _, H', A', ρ', by simp [r1], r2, r3, Rep.unit, f2.trans r4⟩)
    · exact hK.elim
  case nilCheck x =>
    have hx := hev ty x
    unfold pNil at hK
    split at hK
    · rename_i f cs e
      rw [e] at hx
      obtain ⟨us, e1, _⟩ := hx.fn_inv
      refine .inl ⟨σ x, w, _, H, A, ρ, ?_, hK, h, hx, Ext.refl _ _ _ _⟩
      rw [e1]; rfl
    · rename_i id i j e
      rw [e] at hx
      refine .inl ⟨σ x, w, _, H, A, ρ, ?_, hK, h, hx, Ext.refl _ _ _ _⟩
      generalize σ x = u at hx ⊢
      cases hx with
      | st hx => cases hx
      | ptr h1 h2 => rfl
    · rename_i s row j e
      rw [e] at hx
      refine .inl ⟨σ x, w, _, H, A, ρ, ?_, hK, h, hx, Ext.refl _ _ _ _⟩
      generalize σ x = u at hx ⊢
      cases hx with
      | st hx => cases hx; rfl
    · exact hK.elim
  case binOp op t x y _ => exact .of1 (sound_bin h (ekOf_ok P t) op x y (hev _ _) (hev _ _) hK)
  case unOp op _ x =>
    have hx := hev ty x
    split at hK
    · rename_i b e
      rw [e] at hx
      rw [hx.bool_inv]
      exact .pure h (u := .bool !b) (by simp [Op.unary]) Rep.bool hK
    · rename_i k n e
      rw [e] at hx
      rw [hx.int_inv]
      exact .pure h (u := .int k (k.wrap (0 - n))) (by simp [Op.unary, Op.intArith]) Rep.int hK
    · exact hK.elim
  case convert src dst x =>
    have hx := hev src x
    split at hK
    · rename_i d k k' n h1 h2 e
      rw [e] at hx
      rw [hx.int_inv]
      refine .pure h (u := .int k (k.wrap n)) ?_ Rep.int hK
      cases d <;> simp [Go.convert, run_underlying h1, run_underlying h2, Conv.intToInt]
    · rename_i s h1 h2 e
      rw [e] at hx
      rw [hx.str_inv]
      exact .pure h (u := .string s) (by simp [Go.convert, run_underlying h1, run_underlying h2]) Rep.str hK
    · rename_i e h1 h2
      split at hK
      · rename_i s xs h3 h4
        obtain ⟨hs, hK⟩ := hK
        subst hs
        generalize σ x = ux at hx ⊢
        split at hK
        · rename_i ns hb
          refine .pure h (u := .string (bytesOf ns)) ?_ Rep.str hK
          have hxs := bytesV_map hb
          subst hxs
          rcases elems_rep h hx h4 with ⟨e1, e2⟩ | ⟨b, o, cap, e1, hr⟩
          · have : ns = [] := by simpa using e2
            subst this
            rw [e1, run_convert_bytes_string w src dst e none 0 0 h1 h3 h2]
            rfl
          · rw [e1, run_convert_bytes_string w src dst e _ _ cap h1 h3 h2]
            have hl : (loadCells ⟨b, o, none⟩ ns.length).run P w = .ok (ns.map (Value.int .u8)).toArray w := by
              have := run_loadCells_list (P := P) w ⟨b, o, none⟩ (ns.map (Value.int .u8)) (fun j v hj => by
                rw [List.getElem?_map] at hj
                obtain ⟨n, hn, rfl⟩ := Option.map_eq_some_iff.1 hj
                obtain ⟨u, u1, u2⟩ := hr.2 j (.int .u8 n) 0 (.int .u8 n) (by rw [List.getElem?_map, hn]; rfl) rfl
                cases u2
                rw [addr_add, ← u1]
                congr 2
                omega)
              simpa using this
            rw [List.length_map, run_bytesToString w _ _ cap ns hl]
            rfl
        · exact hK.elim
      · exact hK.elim
    · exact hK.elim
  case makeFunc fn first captured =>
    cases fn <;> try exact hK.elim
    case func f =>
      simp only at hK
      split at hK
      · rename_i e
        have e : first = #[] := by simpa using e
        subst e
        refine .pure h (u := .func (.func f) #[] (captured.map σ)) (by simp [Instr.makeFunc]) (.fn (by simp) fun i c u hc hu => ?_) hK
        rw [List.getElem?_map] at hc
        obtain ⟨x, hx, rfl⟩ := Option.map_eq_some_iff.1 hc
        rw [Array.getElem?_map] at hu
        obtain ⟨x', hx', rfl⟩ := Option.map_eq_some_iff.1 hu
        rw [Array.getElem?_toList] at hx
        rw [hx] at hx'
        cases hx'
        exact hev _ _
      · exact hK.elim
  case makeSlice t l c =>
    split at hK
    · rename_i e s bytes hs
      split at hK
      · rename_i z hz
        obtain ⟨c1, c2, c3, hK⟩ := hK
        obtain ⟨i, q1, q2, q3, q4⟩ := slT_some hs
        obtain ⟨i', z', h1, h2, h3⟩ := zeroT_some hz
        rw [q2] at h1; cases h1
        exact .of1 (sound_makeSlice (P := P) h q1 q2 q3 q4 h2 h3 c1 c2 c3 (hev _ _) (hev _ _) hK)
      · exact hK.elim
    · exact hK.elim
  case slice t x lo hi mx =>
    have bnds : ∀ (lo : Option Operand), (∀ v, lo.map (ev 3) = some v → ∃ u, lo.map σ = some u ∧ Rep w A ρ H.length v u) ∧ (lo.map (ev 3) = none → lo.map σ = none) := by
      intro lo
      cases lo with
      | none => exact ⟨fun v h => (by cases h), fun _ => rfl⟩
      | some x => exact ⟨fun v h => ⟨_, rfl, by simp at h; subst h; exact hev _ _⟩, fun h => (by cases h)⟩
    cases mx with
    | some m => exact hK.elim
    | none =>
      simp only at hK
      split at hK
      · rename_i e hU
        split at hK
        · rename_i i hi'
          obtain ⟨hs, hK⟩ := hK
          exact .of1 (sound_slice (P := P) h hU hi' (hev t x) (bnds lo).1 (bnds lo).2 (bnds hi).1 (bnds hi).2 (isStr_false hs) rfl hK)
        · exact hK.elim
      · rename_i hU
        obtain ⟨hs, hK⟩ := hK
        obtain ⟨s, e⟩ := isStr_true hs
        have hx := hev t x
        rw [e] at hx hK
        exact .of1 (sound_sliceStr (P := P) h hU hx (bnds lo).1 (bnds lo).2 (bnds hi).1 (bnds hi).2 hK)
      · exact hK.elim
  case fieldAddr t x n =>
    split at hK
    · rename_i off sz ag ft hf
      obtain ⟨fs, f, i, d, q1, q2, q3, q4, q5, q6, q7, q8⟩ := fieldT_some hf
      obtain ⟨hz, hK⟩ := hK
      subst q5
      exact .of1 (sound_fieldAddr (P := P) h q1 q2 q3 (by rw [q6]; exact hz) (hev _ _) hK)
    · exact hK.elim
  case field t x n =>
    have hx := hev t x
    split at hK
    · rename_i off sz ag ft cs hf e
      rw [e] at hx
      obtain ⟨fs, f, i, d, q1, q2, q3, q4, q5, q6, q7, q8⟩ := fieldT_some hf
      obtain ⟨us, e1, e2, e3⟩ := hx.agg_inv
      split at hK
      · rename_i v hv
        rw [e1]
        have hp : ∃ u, (part f.type us f.offset).run P w = .ok u w ∧ Rep w A ρ H.length v u := by
          unfold part
          simp only [Sem.run_bind, run_isAgg q4, Result.andThen, q7]
          cases ag with
          | true =>
            simp only [rowGet] at hv
            split at hv
            · cases hv
              subst q5; subst q6
              refine ⟨.agg (us.extract f.offset (f.offset + i.size)), by simp [run_sizeOf q3], .agg (by simp; omega) fun k c u hk hu => ?_⟩
              have hkl := (List.getElem?_eq_some_iff.1 hk).1
              have hkl : k < i.size := by simp at hkl; omega
              rw [List.getElem?_take_of_lt hkl, List.getElem?_drop] at hk
              refine e3 (f.offset + k) c u hk ?_
              rw [Array.getElem?_extract] at hu
              split at hu
              · exact hu
              · cases hu
            · cases hv
          | false =>
            simp only [rowGet, V.cells] at hv
            have hl := (List.getElem?_eq_some_iff.1 hv).1
            subst q5
            have hu : us[f.offset]? = some (us[f.offset]'(by omega)) := Array.getElem?_eq_getElem _
            exact ⟨us[f.offset]'(by omega), by simp [hu], e3 _ v _ hv hu⟩
        obtain ⟨u, u1, u2⟩ := hp
        refine .pure h (u := u) ?_ u2 hK
        simp [Instr.field, run_underlying q1, q2, asAgg, u1]
      · exact hK.elim
    · exact hK.elim
  case indexAddr t x ix =>
    split at hK
    · rename_i e s by' hs
      obtain ⟨i, q1, q2, q3, q4⟩ := slT_some hs
      exact .of1 (sound_indexAddr (P := P) h q1 q2 q3 (hev _ _) (hev _ _) hK)
    · exact hK.elim
  case index t x ix =>
    have hx := hev t x
    have hi := hev 3 ix
    split at hK
    · rename_i s k n hU e1 e2
      rw [e1] at hx
      rw [e2] at hi
      obtain ⟨h0, hK⟩ := hK
      split at hK
      · rename_i b hb
        rw [hx.str_inv, hi.int_inv]
        refine .pure h (u := .int .u8 b.toNat) ?_ Rep.int hK
        simp [Instr.index, asIntOf, run_underlying hU, h0, hb]
      · exact hK.elim
    · exact hK.elim
  case extract x i =>
    have hx := hev ty x
    split at hK
    · rename_i vs e
      rw [e] at hx
      obtain ⟨us, e1, e2, e3⟩ := hx.tup_inv
      split at hK
      · rename_i v hv
        have hl := (List.getElem?_eq_some_iff.1 hv).1
        have hu : us[i]? = some (us[i]'(by omega)) := Array.getElem?_eq_getElem _
        rw [e1]
        exact .pure h (u := us[i]'(by omega)) (by simp [Instr.extract, hu]) (e3 i v _ hv hu) hK
      · exact hK.elim
    · exact hK.elim
  case call c =>
    split at hK
    · rename_i f hcal
      split at hK
      · rename_i k caps hf
        have hfr := hev 0 f
        rw [hf] at hfr
        obtain ⟨us, e1, e2, e3⟩ := hfr.fn_inv
        obtain ⟨g1, g2⟩ := rep_evArgs hev c.args.toList c.argTypes.toList
        have hlen : (c.args.map σ ++ us).size = (evArgs ev c.argTypes.toList c.args.toList ++ caps).length := by
          simp [g1, e2]
        have hargs : ∀ (i : Nat) v u, (evArgs ev c.argTypes.toList c.args.toList ++ caps)[i]? = some v → (c.args.map σ ++ us)[i]? = some u → Rep w A ρ H.length v u := by
          intro i v u hv hu
          rcases Nat.lt_or_ge i c.args.size with hi | hi
          · rw [List.getElem?_append_left (by rw [g1]; simpa using hi)] at hv
            rw [Array.getElem?_append_left (by simpa using hi)] at hu
            exact g2 i v u hv (by simpa using hu)
          · rw [List.getElem?_append_right (by rw [g1]; simpa using hi), g1] at hv
            rw [Array.getElem?_append_right (by simpa using hi)] at hu
            exact e3 (i - c.args.size) v u (by simpa using hv) (by simpa using hu)
        obtain ⟨q1, q2⟩ := sound_call (P := P) h hlen hargs hK
        refine .inr (.inr ⟨k, c.args.map σ ++ us, ?_, q2⟩)
        unfold callable at q1
        split at q1
        · rename_i fn hfn
          simp only [Bool.and_eq_true, Bool.not_eq_true'] at q1
          simp [resolve, hcal, e1, Deferred.ofValue, invoke, callFunc, hfn]
          have hb : fn.body.isSome = true := q1.2
          cases hbb : fn.body with
          | none => rw [hbb] at hb; cases hb
          | some b => simpa using q1.1
        · cases q1
      · exact hK.elim
    · rename_i hcal
      split at hK
      · rename_i t x ht hx'
        have ht : c.argTypes = #[t] := by cases c; simp at ht; simpa using congrArg List.toArray ht
        have hx' : c.args = #[x] := by cases c; simp at hx'; simpa using congrArg List.toArray hx'
        have hx := hev t x
        have main : ∀ {s : Sem Value}, Ok1 P w A ρ H s K → s = Builtin.len_ #[t] ty #[σ x] → OkN P w A ρ H (do
            let d ← resolve σ c ty
            invoke d.target d.args) K := by
          intro s hs e
          subst e
          have := OkN.of1 hs
          simpa [resolve, hcal, invoke, builtin, ht, hx'] using this
        split at hK
        · rename_i e hU
          obtain ⟨hs, hK⟩ := hK
          exact main (sound_len (P := P) h hU (.inl ⟨e, rfl⟩) hx (.inl ⟨⟨e, rfl⟩, isStr_false hs⟩) hK) rfl
        · rename_i hU
          obtain ⟨hs, hK⟩ := hK
          exact main (sound_len (P := P) h hU (.inr rfl) hx (.inr ⟨rfl, isStr_true hs⟩) hK) rfl
        · exact hK.elim
      · exact hK.elim
    · rename_i hcal
      split at hK
      · rename_i t t' x y ht hx'
        split at hK
        · rename_i e s bytes hs
          split at hK
          · rename_i z hz
            obtain ⟨c0, c1, c2, c3, hK⟩ := hK
            subst c0
            have ht : c.argTypes = #[t, t] := by cases c; simp at ht; simpa using congrArg List.toArray ht
            have hx' : c.args = #[x, y] := by cases c; simp at hx'; simpa using congrArg List.toArray hx'
            obtain ⟨i, q1, q2, q3, q4⟩ := slT_some hs
            obtain ⟨i', z', h1, h2, h3⟩ := zeroT_some hz
            rw [q2] at h1; cases h1
            have hzs : z'.cells.size = s := by
              rw [(Rep.st (ρ := ρ) (n := 0) ((absZ_rs h3).1 w A)).cells_size' (absZ_rs h3).2, c1]
            have := OkN.of1 (sound_append (P := P) h (ty := ty) q1 q2 q3 q4 h2 hzs c2 c3 (hev t x) (hev t y) hK)
            simpa [resolve, hcal, invoke, builtin, ht, hx'] using this
          · exact hK.elim
        · exact hK.elim
      · exact hK.elim
    · rename_i hcal
      split at hK
      · rename_i x y hx'
        split at hK
        · rename_i k a k' b e1 e2
          have hx' : c.args = #[x, y] := by cases c; simp at hx'; simpa using congrArg List.toArray hx'
          have h1 := hev ty x
          have h2 := hev ty y
          rw [e1] at h1
          rw [e2] at h2
          have := OkN.pure (P := P) (s := Builtin.min_ #[] 0 #[.int k a, .int k' b]) h (run_minmax a b k k').1 Rep.int hK
          simpa [resolve, hcal, invoke, builtin, hx', h1.int_inv, h2.int_inv, Builtin.min_] using this
        · exact hK.elim
      · exact hK.elim
    · rename_i hcal
      split at hK
      · rename_i x y hx'
        split at hK
        · rename_i k a k' b e1 e2
          have hx' : c.args = #[x, y] := by cases c; simp at hx'; simpa using congrArg List.toArray hx'
          have h1 := hev ty x
          have h2 := hev ty y
          rw [e1] at h1
          rw [e2] at h2
          have := OkN.pure (P := P) (s := Builtin.max_ #[] 0 #[.int k a, .int k' b]) h (run_minmax a b k k').2 Rep.int hK
          simpa [resolve, hcal, invoke, builtin, hx', h1.int_inv, h2.int_inv, Builtin.max_] using this
        · exact hK.elim
      · exact hK.elim
    · rename_i hcal
      split at hK
      · rename_i t x ht hx'
        split at hK
        · rename_i e s bytes hs
          split at hK
          · rename_i z hz
            obtain ⟨c1, c2, hK⟩ := hK
            have ht : c.argTypes = #[t] := by cases c; simp at ht; simpa using congrArg List.toArray ht
            have hx' : c.args = #[x] := by cases c; simp at hx'; simpa using congrArg List.toArray hx'
            obtain ⟨i, q1, q2, q3, q4⟩ := slT_some hs
            obtain ⟨i', z', h1, h2, h3⟩ := zeroT_some hz
            rw [q2] at h1; cases h1
            have zr := Rep.st (ρ := ρ) (n := 0) ((absZ_rs h3).1 w A)
            have hzs : z'.cells.size = s := by
              rw [zr.cells_size' (absZ_rs h3).2, c1]
            have := OkN.of1 (sound_clear (P := P) h (ty := ty) q1 q2 h2 hzs (fun u hu => zr.cells_one (absZ_rs h3).2 u (by simpa using hu)) c2 (hev t x) hK)
            simpa [resolve, hcal, invoke, builtin, ht, hx'] using this
          · exact hK.elim
        · exact hK.elim
      · exact hK.elim
    · exact hK.elim

end Go.Sim

namespace Go.Sim

/-! ## 10. Temporaries, regions in text order -/
structure Env where
  v : Nat → V
  k : Nat → Option Bool

def upd {α : Type} (N d : Nat) (x : α) (f : Nat → α) : Nat → α := fun t =>
  match Nat.beq t d && Nat.blt d N with
  | true => x
  | false => f t

def Env.put (N : Nat) (e : Env) (d : Option Nat) (x : V) (kb : Option Bool) : Env :=
  match d with
  | some d => ⟨upd N d x e.v, upd N d kb e.k⟩
  | none => e

def evalE (P : Program) (e : Env) (t : TypeId) : Operand → V
  | .tmp i => e.v i
  | .const u => (absZ P t u).getD .undef
  | .func f => .fn f []
  | .global _ => .undef

structure ERep (w : World) (A : Nat → Prop) (ρ : Nat → Loc) (n N : Nat) (e : Env) (a : Act) : Prop where
  val : ∀ t, Rep w A ρ n (e.v t) (a.tmps.getD t Go.undef)
  kn : ∀ t b, e.k t = some b → e.v t = .bool b
  size : a.tmps.size = N
  defers : a.defers = []

theorem evalE_rep {P w A ρ n N e a} (h : ERep w A ρ n N e a) (t : TypeId) (x : Operand) : Rep w A ρ n (evalE P e t x) (a.eval x) := by
  cases x with
  | tmp i => exact h.val i
  | const u =>
    show Rep w A ρ n ((absZ P t u).getD .undef) u
    cases hz : absZ P t u with
    | none => exact Rep.undef
    | some v => exact .st ((absZ_rs hz).1 w A)
  | global g => exact Rep.undef
  | func f => exact .fn rfl fun i c u hc => by simp at hc

theorem ERep.ext {w A ρ H w' A' ρ' H' N e a} (h : ERep w A ρ H.length N e a) (he : Ext w A ρ H w' A' ρ' H') : ERep w' A' ρ' H'.length N e a :=
  ⟨fun t => he.rep _ _ (h.val t), h.kn, h.size, h.defers⟩

theorem upd_eq {α : Type} {N d t : Nat} {x : α} {f : Nat → α} : upd N d x f t = if t = d ∧ d < N then x else f t := by
  unfold upd
  by_cases h1 : t = d
  · by_cases h2 : d < N
    · have : (Nat.beq t d && Nat.blt d N) = true := by simp [h1, Nat.blt_eq, h2]
      rw [this, if_pos ⟨h1, h2⟩]
    · have : (Nat.beq t d && Nat.blt d N) = false := by
        rw [Bool.and_eq_false_iff]; right
        cases hb : Nat.blt d N with
        | false => rfl
        | true => exact absurd (Nat.blt_eq.mp hb) h2
      rw [this, if_neg (fun h => h2 h.2)]
  · have : (Nat.beq t d && Nat.blt d N) = false := by
      rw [Bool.and_eq_false_iff]; left
      cases hb : Nat.beq t d with
      | false => rfl
      | true => exact absurd (Nat.eq_of_beq_eq_true hb) h1
    rw [this, if_neg (fun h => h1 h.1)]

theorem put_getD {a : Act} {d t : Nat} {u : Value} : (a.put (some d) u).tmps.getD t Go.undef = if t = d ∧ d < a.tmps.size then u else a.tmps.getD t Go.undef := by
  simp only [Act.put, Array.getD_eq_getD_getElem?, Array.getElem?_setIfInBounds]
  by_cases h1 : t = d
  · subst h1
    by_cases h2 : t < a.tmps.size
    · simp [h2]
    · simp [h2]
  · rw [if_neg (fun h => h1 h.symm), if_neg (fun h => h1 h.1)]

theorem ERep.put {w A ρ n N e a} (h : ERep w A ρ n N e a) (d : Option Nat) {x : V} {u : Value} {kb : Option Bool} (hx : Rep w A ρ n x u) (hk : ∀ b, kb = some b → x = .bool b) : ERep w A ρ n N (e.put N d x kb) (a.put d u) := by
  cases d with
  | none => exact h
  | some d =>
    refine ⟨fun t => ?_, fun t b hb => ?_, by simp [Act.put, h.size], by simp [Act.put, h.defers]⟩
    · rw [put_getD]
      simp only [Env.put, upd_eq, h.size]
      split
      · exact hx
      · exact h.val t
    · simp only [Env.put, upd_eq] at hb ⊢
      split at hb
      · rw [if_pos (by assumption)]; exact hk b hb
      · rw [if_neg (by assumption)]; exact h.kn t b hb

def knownOf (e : Env) : Operand → Option Bool
  | .tmp t => e.k t
  | .const (.bool b) => some b
  | _ => none

def copyOf (e : Env) : Op → Option Operand
  | .move x => some x
  | .assign x => some x
  | .pick c a b => match knownOf e c with
    | some true => some a
    | some false => some b
    | none => none
  | _ => none

/-- Is this operation looked at: known, known not to be, or nothing known. -/
def wantA (ops : Array Oper) (e : Env) (o : Oper) : Option Bool :=
  match o.guard with
  | none => some true
  | some (j, want) => match (ops[j]?).bind (·.dst) with
    | none => some false
    | some d => match e.k d with
      | some b => some (b == want)
      | none => match e.v d with
        | .tup _ => some false
        | _ => none

def guards (ops : Array Oper) (i : Nat) : Bool := ops.any fun o => match o.guard with
  | some (j, _) => Nat.beq j i
  | none => false

def finA (N : Nat) (isG : Bool) (dst : Option Nat) (e : Env) (K : Env → Heap → Prop) (kb : Option Bool) (v : V) (H : Heap) : Prop :=
  match kb, isG with
  | some b, _ => K (e.put N dst v (some b)) H
  | none, false => K (e.put N dst v none) H
  | none, true => match v with
    | .bool b => (b = true → K (e.put N dst (.bool true) (some true)) H) ∧ (b = false → K (e.put N dst (.bool false) (some false)) H)
    | _ => False

def aAt (P : Program) (N : Nat) (ops : Array Oper) (i : Nat) (e : Env) (H : Heap) (K : Env → Heap → Prop) : Prop :=
  match ops[i]? with
  | none => K e H
  | some o => match wantA ops e o with
    | none => False
    | some false => K (e.put N o.dst (.tup []) none) H
    | some true => match copyOf e o.op with
      | some x => finA N (guards ops i) o.dst e K (knownOf e x) (evalE P e o.type x) H
      | none => aop P o.op o.type (evalE P e) H (finA N (guards ops i) o.dst e K none)

def aOps (P : Program) (N : Nat) (ops : Array Oper) (K : Env → Heap → Prop) : List Nat → Env → Heap → Prop
  | [], e, H => K e H
  | i :: r, e, H => aAt P N ops i e H (aOps P N ops K r)

theorem wantA_sound {w A ρ n N e a ops o b} (h : ERep w A ρ n N e a) (hw : wantA ops e o = some b) : Region.wanted o (yielded ops a.tmps) = b := by
  unfold wantA at hw
  unfold Region.wanted
  split at hw
  · rename_i hg
    cases hw
    simp [hg]
  · rename_i j want hg
    simp only [hg]
    split at hw
    · rename_i hd
      cases hw
      simp [yielded, hd]
    · rename_i d hd
      have hv := h.val d
      have hy : ∀ u, a.tmps.getD d Go.undef = u → yielded ops a.tmps j = match u with | .bool b => some b | _ => none := by
        intro u hu
        subst hu
        unfold yielded
        rw [hd]
        simp only [Option.bind_some, Array.getD_eq_getD_getElem?]
        cases ht : a.tmps[d]? with
        | none => rfl
        | some x => cases x <;> rfl
      split at hw
      · rename_i b' hk
        cases hw
        rw [h.kn d b' hk] at hv
        rw [hy _ hv.bool_inv]
        cases b' <;> cases want <;> rfl
      · split at hw
        · rename_i l e'
          cases hw
          rw [e'] at hv
          obtain ⟨us, e1, _⟩ := hv.tup_inv
          rw [hy _ e1]
          rfl
        · cases hw

theorem knownOf_sound {P : Program} {w A ρ n N e a} (h : ERep w A ρ n N e a) {x : Operand} {b : Bool} (hk : knownOf e x = some b) (t : TypeId) : evalE P e t x = .bool b := by
  cases x with
  | tmp i => exact h.kn i b hk
  | const u =>
    cases u <;> simp [knownOf] at hk
    subst hk
    rfl
  | global g => cases hk
  | func f => cases hk

/-- What holds of the machine after a step, told of the state before. -/
structure After (N : Nat) (w : World) (A : Nat → Prop) (ρ : Nat → Loc) (H : Heap) (a : Act) (D : List Nat) (e' : Env) (H' : Heap) (a' : Act) (w' : World) (A' : Nat → Prop) (ρ' : Nat → Loc) : Prop where
  hr : HR w' A' ρ' H'
  er : ERep w' A' ρ' H'.length N e' a'
  ext : Ext w A ρ H w' A' ρ' H'
  same : ∀ t, t ∉ D → a'.tmps.getD t Go.undef = a.tmps.getD t Go.undef

theorem After.trans {N w A ρ H a D e1 H1 a1 w1 A1 ρ1 e2 H2 a2 w2 A2 ρ2} (h : After N w A ρ H a D e1 H1 a1 w1 A1 ρ1) (g : After N w1 A1 ρ1 H1 a1 D e2 H2 a2 w2 A2 ρ2) : After N w A ρ H a D e2 H2 a2 w2 A2 ρ2 :=
  ⟨g.hr, g.er, h.ext.trans g.ext, fun t ht => (g.same t ht).trans (h.same t ht)⟩
theorem After.mono {N w A ρ H a D D' e1 H1 a1 w1 A1 ρ1} (h : After N w A ρ H a D e1 H1 a1 w1 A1 ρ1) (hd : ∀ t ∈ D, t ∈ D') : After N w A ρ H a D' e1 H1 a1 w1 A1 ρ1 :=
  ⟨h.hr, h.er, h.ext, fun t ht => h.same t fun hh => ht (hd t hh)⟩
theorem After.refl {N w A ρ H e a D} (h : HR w A ρ H) (he : ERep w A ρ H.length N e a) : After N w A ρ H a D e H a w A ρ := ⟨h, he, Ext.refl _ _ _ _, fun _ _ => rfl⟩

theorem finA_sound {N isG dst e K kb v H w A ρ H0 w0 A0 ρ0 a u} (h : HR w A ρ H) (he : ERep w0 A0 ρ0 H0.length N e a) (hx : Ext w0 A0 ρ0 H0 w A ρ H) (hv : Rep w A ρ H.length v u) (hkb : ∀ b, kb = some b → v = .bool b)
    (hK : finA N isG dst e K kb v H) : ∃ e', K e' H ∧ After N w0 A0 ρ0 H0 a dst.toList e' H (a.put dst u) w A ρ := by
  have he' := he.ext hx
  have fin : ∀ {v kb}, Rep w A ρ H.length v u → (∀ b, kb = some b → v = .bool b) → After N w0 A0 ρ0 H0 a dst.toList (e.put N dst v kb) H (a.put dst u) w A ρ := by
    intro v kb hv hkb
    refine ⟨h, he'.put dst hv hkb, hx, fun t ht => ?_⟩
    cases dst with
    | none => rfl
    | some d => rw [put_getD, if_neg (fun hh => ht (by simp [hh.1]))]
  unfold finA at hK
  split at hK
  · exact ⟨_, hK, fin hv hkb⟩
  · exact ⟨_, hK, fin hv (fun b hb => by cases hb)⟩
  · split at hK
    · rename_i b
      cases b
      · exact ⟨_, hK.2 rfl, fin hv (fun b hb => by cases hb; rfl)⟩
      · exact ⟨_, hK.1 rfl, fin hv (fun b hb => by cases hb; rfl)⟩
    · exact hK.elim

theorem execOp_copy {P : Program} {w A ρ n N e a} (h : ERep w A ρ n N e a) {o : Oper} {x : Operand} (hc : copyOf e o.op = some x) (w' : World) : (execOp a.eval o).run P w' = .ok (.value (a.eval x)) w' := by
  obtain ⟨dst, op, ty, pos, after, guard⟩ := o
  cases op <;> simp [copyOf] at hc
  case move y => subst hc; rfl
  case assign y => subst hc; rfl
  case pick c p q =>
    split at hc <;> cases hc
    · rename_i hk
      have hb := evalE_rep (P := P) h 0 c
      rw [knownOf_sound h hk] at hb
      simp [execOp, hb.bool_inv, asBool]
    · rename_i hk
      have hb := evalE_rep (P := P) h 0 c
      rw [knownOf_sound h hk] at hb
      simp [execOp, hb.bool_inv, asBool]

theorem aAt_sound {P : Program} {N : Nat} {ops : Array Oper} {i : Nat} {e : Env} {H : Heap} {K : Env → Heap → Prop} {w A ρ} {a : Act} (h : HR w A ρ H) (he : ERep w A ρ H.length N e a) (hK : aAt P N ops i e H K)
    {Q : Exit → Act → World → Prop} {next : Act → World → Prop} (hn : ∀ e' H' a' w' A' ρ', K e' H' → After N w A ρ H a (((ops[i]?).bind (·.dst)).toList) e' H' a' w' A' ρ' → next a' w') : wpOp P ops Q i next a w := by
  unfold aAt at hK
  unfold wpOp
  split at hK
  · rename_i hi
    rw [hi]
    exact hn _ _ _ _ _ _ hK (After.refl h he)
  · rename_i o hi
    rw [hi] at hn ⊢
    simp only
    split at hK
    · exact hK.elim
    · rename_i hw
      rw [wantA_sound he hw]
      simp only [Bool.false_eq_true, if_false]
      obtain ⟨e', h1, h2⟩ := finA_sound (K := K) (isG := false) (kb := none) (dst := o.dst) h he (Ext.refl _ _ _ _) (u := Go.undef) Rep.unit (fun b hb => by cases hb) hK
      exact hn _ _ _ _ _ _ h1 h2
    · rename_i hw
      rw [wantA_sound he hw]
      simp only [if_true]
      refine .inl ?_
      unfold Oper.wp
      split at hK
      · rename_i x hc
        rw [execOp_copy he hc w]
        obtain ⟨e', h1, h2⟩ := finA_sound h he (Ext.refl _ _ _ _) (evalE_rep he o.type x) (fun b hb => knownOf_sound he hb _) hK
        exact hn _ _ _ _ _ _ h1 h2
      · rcases aop_sound h (evalE_rep he) o hK with ⟨u, w', v, H', A', ρ', r1, r2, r3, r4, r5⟩ | ⟨w', v, H', A', ρ', r1, r2, r3, r4, r5⟩ | ⟨k, us, r1, r2⟩
        · rw [r1]
          obtain ⟨e', h1, h2⟩ := finA_sound r3 he r5 r4 (fun b hb => by cases hb) r2
          exact hn _ _ _ _ _ _ h1 h2
        · rw [r1]
          obtain ⟨e', h1, h2⟩ := finA_sound r3 he r5 r4 (fun b hb => by cases hb) r2
          exact hn _ _ _ _ _ _ h1 h2
        · rw [r1, Oper.upon_enter]
          refine r2.mono ?_
          rintro _ w' ⟨u, v, H', A', ρ', rfl, q2, q3, q4, q5⟩
          obtain ⟨e', h1, h2⟩ := finA_sound q3 he q5 q4 (fun b hb => by cases hb) q2
          exact hn _ _ _ _ _ _ h1 h2

/-- All that a region assigns. -/
def dsts (ops : Array Oper) : List Nat := ops.toList.filterMap (·.dst)

theorem mem_dsts {ops : Array Oper} {i t : Nat} (h : t ∈ ((ops[i]?).bind (·.dst)).toList) : t ∈ dsts ops := by
  cases hi : ops[i]? with
  | none => rw [hi] at h; simp at h
  | some o =>
    rw [hi] at h
    simp at h
    exact List.mem_filterMap.2 ⟨o, List.mem_of_getElem? (by simpa using hi), h⟩

theorem aOps_sound {P : Program} {N : Nat} {ops : Array Oper} {K : Env → Heap → Prop} {Q : Exit → Act → World → Prop} : ∀ (l : List Nat) {e : Env} {H : Heap} {w A ρ} {a : Act}, HR w A ρ H → ERep w A ρ H.length N e a → aOps P N ops K l e H →
    (∀ e' H' a' w' A' ρ', K e' H' → After N w A ρ H a (dsts ops) e' H' a' w' A' ρ' → Q .normal a' w') → wpOps P ops Q l a w
  | [], e, H, w, A, ρ, a, h, he, hK, hQ => hQ _ _ _ _ _ _ hK (After.refl h he)
  | i :: l, e, H, w, A, ρ, a, h, he, hK, hQ => by
    rw [wpOps_cons]
    refine aAt_sound h he hK fun e' H' a' w' A' ρ' hk haf => ?_
    have haf := haf.mono (fun t ht => mem_dsts ht)
    exact aOps_sound l haf.hr haf.er hk fun e2 H2 a2 w2 A2 ρ2 hk2 haf2 => hQ _ _ _ _ _ _ hk2 (haf.trans haf2)

end Go.Sim

namespace Go.Sim

/-! ## 11. Drawn regions -/
theorem pLoad_mono {ag sz p H} {K K' : V → Prop} (hk : ∀ v, K v → K' v) (h : pLoad ag sz p H K) : pLoad ag sz p H K' := by
  unfold pLoad at h ⊢
  repeat' split at h
  all_goals first | exact h.elim | (simp only [*]; done) | (simp only [*]; exact hk _ h)
theorem pIndexAddr_mono {s x i H} {K K' : V → Prop} (hk : ∀ v, K v → K' v) (h : pIndexAddr s x i H K) : pIndexAddr s x i H K' := by
  unfold pIndexAddr at h ⊢
  split at h
  · split at h
    · obtain ⟨h1, h2, h3, h4⟩ := h
      refine ⟨h1, h2, h3, ?_⟩
      split at h4
      · exact hk _ h4
      · exact h4
    · exact ⟨h.1, h.2.1, h.2.2.1, hk _ h.2.2.2⟩
    · exact h
  · exact h
theorem pFieldAddr_mono {off p} {K K' : V → Prop} (hk : ∀ v, K v → K' v) (h : pFieldAddr off p K) : pFieldAddr off p K' := by
  unfold pFieldAddr at h ⊢
  split at h
  · exact hk _ h
  · exact hk _ h
  · exact h
theorem pLen_mono {x} {K K' : V → Prop} (hk : ∀ v, K v → K' v) (h : pLen x K) : pLen x K' := by
  unfold pLen at h ⊢
  split at h
  all_goals first | exact hk _ h | exact h
theorem pSlice_mono {s x lo hi H} {K K' : V → Prop} (hk : ∀ v, K v → K' v) (h : pSlice s x lo hi H K) : pSlice s x lo hi H K' := by
  unfold pSlice at h ⊢
  split at h
  · split at h
    · exact ⟨h.1, h.2.1, h.2.2.1, hk _ h.2.2.2⟩
    · exact h
  · split at h
    · exact ⟨h.1, h.2.1, h.2.2.1, h.2.2.2.1, hk _ h.2.2.2.2⟩
    · exact h
  · split at h
    · exact ⟨h.1, h.2.1, h.2.2.1, h.2.2.2.1, hk _ h.2.2.2.2⟩
    · exact h
  · exact h
theorem pInt_mono {op k a b} {K K' : V → Prop} (hk : ∀ v, K v → K' v) (h : pInt op k a b K) : pInt op k a b K' := by
  unfold pInt at h ⊢
  split at h
  all_goals first | exact hk _ h | exact ⟨h.1, hk _ h.2⟩ | exact h
theorem pBin_mono {ek op x y H} {K K' : V → Prop} (hk : ∀ v, K v → K' v) (h : pBin ek op x y H K) : pBin ek op x y H K' := by
  unfold pBin at h ⊢
  split at h
  · split at h
    · exact ⟨h.1, hk _ h.2⟩
    · exact ⟨h.1, hk _ h.2⟩
    · exact ⟨h.1, pInt_mono hk h.2⟩
  · split at h
    all_goals first | exact hk _ h | exact h
  · split at h
    all_goals first | exact hk _ h | exact ⟨h.1, hk _ h.2⟩ | exact h
  · split at h
    · split at h
      · exact hk _ h
      · exact h
    · split at h
      · exact hk _ h
      · exact h
    · exact h
  · split at h
    all_goals first | exact hk _ h | exact h
theorem pStore_mono {sz p v H} {K K' : Heap → Prop} (hk : ∀ H', K H' → K' H') (h : pStore sz p v H K) : pStore sz p v H K' := by
  unfold pStore at h ⊢
  obtain ⟨h1, h2, h⟩ := h
  refine ⟨h1, h2, ?_⟩
  split at h
  · split at h
    · split at h
      · split at h
        · exact ⟨h.1, hk _ h.2⟩
        · exact h
      · exact h
    · split at h
      · split at h
        · exact hk _ h
        · exact h
      · exact h
    · exact h
  · exact h
theorem pAppend_mono {e s b x y H} {K K' : V → Heap → Prop} (hk : ∀ v H', K v H' → K' v H') (h : pAppend e s b x y H K) : pAppend e s b x y H K' := by
  unfold pAppend at h ⊢
  split at h
  · refine ⟨h.1, ?_⟩
    have h := h.2
    split at h
    · exact ⟨h.1, hk _ _ h.2⟩
    · split at h
      · exact ⟨h.1, h.2.1, h.2.2.1, h.2.2.2.1, hk _ _ h.2.2.2.2⟩
      · exact h
    · exact h
  · exact h
theorem pClear_mono {s x H} {K K' : V → Heap → Prop} (hk : ∀ v H', K v H' → K' v H') (h : pClear s x H K) : pClear s x H K' := by
  unfold pClear at h ⊢
  split at h
  · split at h
    · exact ⟨h.1, h.2.1, hk _ _ h.2.2⟩
    · exact h
  · exact h
theorem pMakeSlice_mono {e s b z n m H} {K K' : V → Heap → Prop} (hk : ∀ v H', K v H' → K' v H') (h : pMakeSlice e s b z n m H K) : pMakeSlice e s b z n m H K' := by
  unfold pMakeSlice at h ⊢
  split at h
  · exact ⟨h.1, h.2.1, h.2.2.1, hk _ _ h.2.2.2⟩
  · exact h
theorem pCall_mono {P k args H} {K K' : V → Heap → Prop} (hk : ∀ v H', K v H' → K' v H') (h : pCall P k args H K) : pCall P k args H K' := by
  obtain ⟨fl, lend, vw, ids, args', Hs, h1, h2, h3, h4, h5, h6⟩ := h
  exact ⟨fl, lend, vw, ids, args', Hs, h1, h2, h3, h4, h5, h6.mono fun v H' hh => ⟨hh.1, hk _ _ hh.2⟩⟩

theorem aop_mono {P o ty ev H} {K K' : V → Heap → Prop} (hk : ∀ v H', K v H' → K' v H') (h : aop P o ty ev H K) : aop P o ty ev H K' := by
  cases o <;> simp only [aop] at h ⊢
  case move x => exact hk _ _ h
  case assign x => exact hk _ _ h
  case pick c a b =>
    split at h
    · exact hk _ _ h
    · exact h
  case alloc e =>
    split at h
    · exact ⟨h.1, hk _ _ h.2⟩
    · exact h
  case box e x => exact ⟨h.1, hk _ _ h.2⟩
  case build t ps =>
    split at h
    · exact ⟨h.1, hk _ _ h.2⟩
    · exact h
  case buildSlice t n ps =>
    split at h
    · split at h
      · obtain ⟨h1, h2, h3, h4⟩ := h
        exact ⟨h1, h2, h3, pFz_mono (fun _ _ h5 => ⟨h5.1, hk _ _ h5.2⟩) h4⟩
      · exact h
    · exact h
  case load t a =>
    split at h
    · exact pLoad_mono (fun v => hk v _) h
    · exact h
  case store t a x =>
    split at h
    · refine pFz_mono (fun vs H' h => ?_) h
      split at h
      · exact pStore_mono (fun H' => hk _ H') h
      · exact h
    · exact h
  case nilCheck x =>
    unfold pNil at h ⊢
    split at h
    all_goals first | exact hk _ _ h | exact h
  case binOp => exact pBin_mono (fun v => hk v _) h
  case unOp =>
    split at h
    all_goals first | exact hk _ _ h | exact h
  case convert =>
    split at h
    · exact hk _ _ h
    · exact hk _ _ h
    · split at h
      · refine ⟨h.1, ?_⟩
        have h := h.2
        split at h
        · exact hk _ _ h
        · exact h
      · exact h
    · exact h
  case makeFunc fn first captured =>
    cases fn <;> try exact h.elim
    simp only at h ⊢
    split at h
    · exact hk _ _ h
    · exact h
  case makeSlice =>
    split at h
    · split at h
      · exact ⟨h.1, h.2.1, h.2.2.1, pMakeSlice_mono hk h.2.2.2⟩
      · exact h
    · exact h
  case slice t x lo hi mx =>
    cases mx with
    | some m => exact h.elim
    | none =>
      simp only at h ⊢
      split at h
      · split at h
        · exact ⟨h.1, pSlice_mono (fun v => hk v _) h.2⟩
        · exact h
      · exact ⟨h.1, pSlice_mono (fun v => hk v _) h.2⟩
      · exact h
  case fieldAddr =>
    split at h
    · exact ⟨h.1, pFieldAddr_mono (fun v => hk v _) h.2⟩
    · exact h
  case field =>
    split at h
    · split at h
      · exact hk _ _ h
      · exact h
    · exact h
  case indexAddr =>
    split at h
    · exact pIndexAddr_mono (fun v => hk v _) h
    · exact h
  case index =>
    split at h
    · refine ⟨h.1, ?_⟩
      have h := h.2
      split at h
      · exact hk _ _ h
      · exact h
    · exact h
  case extract =>
    split at h
    · split at h
      · exact hk _ _ h
      · exact h
    · exact h
  case call c =>
    split at h
    · split at h
      · exact pCall_mono hk h
      · exact h
    · split at h
      · split at h
        · exact ⟨h.1, pLen_mono (fun v => hk v _) h.2⟩
        · exact ⟨h.1, pLen_mono (fun v => hk v _) h.2⟩
        · exact h
      · exact h
    · split at h
      · split at h
        · split at h
          · exact ⟨h.1, h.2.1, h.2.2.1, h.2.2.2.1, pAppend_mono hk h.2.2.2.2⟩
          · exact h
        · exact h
      · exact h
    · split at h
      · split at h
        · exact hk _ _ h
        · exact h
      · exact h
    · split at h
      · split at h
        · exact hk _ _ h
        · exact h
      · exact h
    · split at h
      · split at h
        · split at h
          · exact ⟨h.1, h.2.1, pClear_mono hk h.2.2⟩
          · exact h
        · exact h
      · exact h
    · exact h

theorem evArgs_congr {ev ev' : TypeId → Operand → V} : ∀ (xs : List Operand) (ts : List TypeId), (∀ t, ∀ x ∈ xs, ev t x = ev' t x) → evArgs ev ts xs = evArgs ev' ts xs
  | [], ts, _ => by cases ts <;> rfl
  | x :: xs, [], h => by simp only [evArgs]; rw [h 0 x (by simp), evArgs_congr xs [] fun t y hy => h t y (by simp [hy])]
  | x :: xs, t :: ts, h => by simp only [evArgs]; rw [h t x (by simp), evArgs_congr xs ts fun t y hy => h t y (by simp [hy])]

theorem buildParts_congr {P : Program} {t} {ev ev' : TypeId → Operand → V} : ∀ (l : List (Nat × Operand)), (∀ t, ∀ x ∈ l.map (·.2), ev t x = ev' t x) → buildParts P ev t l = buildParts P ev' t l
  | [], _ => rfl
  | (n, x) :: l, h => by
    simp only [buildParts]
    rw [buildParts_congr l fun t y hy => h t y (by simp at hy ⊢; exact .inr hy)]
    cases fieldT P t n with
    | none => rfl
    | some q =>
      obtain ⟨off, sz, ag, ft⟩ := q
      cases buildParts P ev' t l with
      | none => rfl
      | some ps => simp only; rw [h ft x (by simp)]

theorem aop_congr {P o ty H K} {ev ev' : TypeId → Operand → V} (h : ∀ t, ∀ x ∈ o.operands, ev t x = ev' t x) : aop P o ty ev H K = aop P o ty ev' H K := by
  cases o <;> simp only [Op.operands] at h <;> simp only [aop]
  case build t ps => rw [buildParts_congr ps.toList fun t x hx => h t x (by simpa using hx)]
  case buildSlice t n ps =>
    have : ∀ e, (ps.toList.map fun p => ev e p.2) = ps.toList.map fun p => ev' e p.2 := fun e => List.map_congr_left fun p hp => h e p.2 (by simp; exact ⟨p.1, by simpa using hp⟩)
    simp only [this]
  case makeFunc fn first captured =>
    cases fn <;> try rfl
    have : captured.toList.map (ev 0) = captured.toList.map (ev' 0) := List.map_congr_left fun x hx => h 0 x (by simp at hx ⊢; exact .inr hx)
    simp only [this]
  case call c =>
    have ha : ∀ t, ∀ x ∈ c.args.toList, ev t x = ev' t x := fun t x hx => h t x (by simp [Call.operands] at hx ⊢; exact .inr hx)
    have hl : ∀ t x, c.args.toList = [x] → ev t x = ev' t x := fun t x hx => ha t x (by simp [hx])
    have h2 : ∀ t x y, c.args.toList = [x, y] → ev t x = ev' t x ∧ ev t y = ev' t y := fun t x y hx => ⟨ha t x (by simp [hx]), ha t y (by simp [hx])⟩
    cases hc : c.callee with
    | value f =>
      simp only
      rw [h 0 f (by simp [Call.operands, hc]), evArgs_congr _ _ ha]
    | invoke r m => rfl
    | builtin b =>
      cases b <;> try rfl
      all_goals
        simp only
        split
        · first
            | rw [(h2 _ _ _ (by assumption)).1, (h2 _ _ _ (by assumption)).2]
            | rw [hl _ _ (by assumption)]
        · rfl
  case slice t x lo hi mx =>
    cases mx with
    | some m => rfl
    | none =>
      have hx := fun t => h t x (by simp)
      have hlo : lo.map (ev 3) = lo.map (ev' 3) := by
        cases lo with
        | none => rfl
        | some y => simp [h 3 y (by simp)]
      have hhi : hi.map (ev 3) = hi.map (ev' 3) := by
        cases hi with
        | none => rfl
        | some y => simp [h 3 y (by simp)]
      simp only [hx, hlo, hhi]
  all_goals first
    | rfl
    | (simp only [Array.mem_def, List.mem_cons, List.not_mem_nil, or_false, forall_eq_or_imp, forall_eq] at h; simp only [h])
    | (have h0 := fun t => (h t _ (by simp : _)); simp only [h0])

/-! ### quiet operations -/
def quietOp : Op → Bool
  | .move _ | .assign _ | .pick .. | .load .. | .nilCheck _ | .binOp .. | .unOp .. | .convert .. | .makeFunc .. | .slice .. | .fieldAddr .. | .field .. | .indexAddr .. | .index .. | .extract .. | .build .. => true
  | .call c => match c.callee with
    | .builtin .len | .builtin .min | .builtin .max => true
    | _ => false
  | _ => false

def readV (o : Op) (ev : TypeId → Operand → V) : List V :=
  match o with
  | .load _ a => [ev 0 a]
  | .indexAddr t x _ => [ev t x]
  | .slice t x _ _ _ => [ev t x]
  | .convert src _ x => [ev src x]
  | .binOp _ t x y _ => [ev t x, ev t y]
  | _ => []

def keepB (H H' : Heap) (id : Nat) : Prop :=
  match H[id]? with
  | some (.sl nn e s rows) => H'[id]? = some (.sl nn e s rows) ∨ H'[id]? = some (.fz nn s rows)
  | some k => H'[id]? = some k
  | none => True
def keepV (x : V) (H H' : Heap) : Prop :=
  match x with
  | .ref id _ _ => keepB H H' id
  | .ptr id _ _ => keepB H H' id
  | _ => True

theorem keepB_refl (H : Heap) (id : Nat) : keepB H H id := by
  unfold keepB
  split
  · exact .inl (by assumption)
  · assumption
  · trivial
theorem keepV_refl (x : V) (H : Heap) : keepV x H H := by
  unfold keepV
  split
  · exact keepB_refl _ _
  · exact keepB_refl _ _
  · trivial

theorem pLoad_val {ag sz p H} {K : V → Prop} (h : pLoad ag sz p H K) : ∃ v, K v ∧ ∀ (H2 : Heap) (K2 : V → Prop), keepV p H H2 → K2 v → pLoad ag sz p H2 K2 := by
  unfold pLoad at h
  split at h
  · split at h
    · rename_i v hv
      exact ⟨v, h, fun H2 K2 _ hk => by unfold pLoad; simp only [hv]; exact hk⟩
    · exact h.elim
  · split at h
    · split at h
      · split at h
        · rename_i hH _ row hrow _ v hv
          refine ⟨v, h, fun H2 K2 hkp hk => ?_⟩
          unfold pLoad
          simp only [keepV, keepB, hH] at hkp
          rcases hkp with hkp | hkp <;> simp only [hkp, hrow, hv] <;> exact hk
        · exact h.elim
      · exact h.elim
    · split at h
      · split at h
        · rename_i hH _ row hrow _ v hv
          refine ⟨v, h, fun H2 K2 hkp hk => ?_⟩
          unfold pLoad
          simp only [keepV, keepB, hH] at hkp
          simp only [hkp, hrow, hv]
          exact hk
        · exact h.elim
      · exact h.elim
    · rename_i hH
      split at h
      · split at h
        · rename_i hv
          refine ⟨_, h, fun H2 K2 hkp hk => ?_⟩
          unfold pLoad
          simp only [keepV, keepB, hH] at hkp
          simp only [hkp, hv]
          exact hk
        · exact h.elim
      · exact h.elim
    · exact h.elim
  · exact h.elim

theorem keep_width {H H2 : Heap} {id s : Nat} (hk : keepB H H2 id) (h : Heap.width H id = some s) : Heap.width H2 id = some s := by
  unfold Heap.width at h
  unfold keepB at hk
  split at h
  · rename_i hH
    cases h
    rw [hH] at hk
    simp only at hk
    rcases hk with hk | hk <;> simp [Heap.width, hk]
  · rename_i hH
    cases h
    rw [hH] at hk
    simp only at hk
    simp [Heap.width, hk]
  · cases h

theorem pIndexAddr_val {s x i H} {K : V → Prop} (h : pIndexAddr s x i H K) : ∃ v, K v ∧ ∀ (H2 : Heap) (K2 : V → Prop), keepV x H H2 → K2 v → pIndexAddr s x i H2 K2 := by
  unfold pIndexAddr at h
  split at h
  · split at h
    · obtain ⟨h1, h2, h3, h4⟩ := h
      split at h4
      · rename_i row hrow
        exact ⟨_, h4, fun H2 K2 _ hk => ⟨h1, h2, h3, by simp only [hrow]; exact hk⟩⟩
      · exact h4.elim
    · exact ⟨_, h.2.2.2, fun H2 K2 hkp hk => ⟨keep_width hkp h.1, h.2.1, h.2.2.1, hk⟩⟩
    · exact h.elim
  · exact h.elim

theorem pFieldAddr_val {off p} {K : V → Prop} (h : pFieldAddr off p K) : ∃ v, K v ∧ ∀ (K2 : V → Prop), K2 v → pFieldAddr off p K2 := by
  unfold pFieldAddr at h
  split at h
  · exact ⟨_, h, fun _ h => h⟩
  · exact ⟨_, h, fun _ h => h⟩
  · exact h.elim
theorem pLen_val {x} {K : V → Prop} (h : pLen x K) : ∃ v, K v ∧ ∀ (K2 : V → Prop), K2 v → pLen x K2 := by
  unfold pLen at h
  split at h
  · exact ⟨_, h, fun _ h => h⟩
  · exact ⟨_, h, fun _ h => h⟩
  · exact ⟨_, h, fun _ h => h⟩
  · exact h.elim
theorem pSlice_val {s x lo hi H} {K : V → Prop} (h : pSlice s x lo hi H K) : ∃ v, K v ∧ ∀ (H2 : Heap) (K2 : V → Prop), keepV x H H2 → K2 v → pSlice s x lo hi H2 K2 := by
  unfold pSlice at h
  split at h
  · split at h
    · rename_i h1 h2
      exact ⟨_, h.2.2.2, fun H2 K2 _ hk => by unfold pSlice; simp only [h1, h2]; exact ⟨h.1, h.2.1, h.2.2.1, hk⟩⟩
    · exact h.elim
  · split at h
    · rename_i h1 h2
      exact ⟨_, h.2.2.2.2, fun H2 K2 _ hk => by unfold pSlice; simp only [h1, h2]; exact ⟨h.1, h.2.1, h.2.2.1, h.2.2.2.1, hk⟩⟩
    · exact h.elim
  · split at h
    · rename_i h1 h2
      exact ⟨_, h.2.2.2.2, fun H2 K2 hkp hk => by unfold pSlice; simp only [h1, h2]; exact ⟨keep_width hkp h.1, h.2.1, h.2.2.1, h.2.2.2.1, hk⟩⟩
    · exact h.elim
  · exact h.elim

theorem pInt_val {op k a b} {K : V → Prop} (h : pInt op k a b K) : ∃ v, K v ∧ ∀ (K2 : V → Prop), K2 v → pInt op k a b K2 := by
  cases op <;> first
    | exact h.elim
    | exact ⟨_, h, fun _ h => h⟩
    | exact ⟨_, h.2, fun _ h2 => ⟨h.1, h2⟩⟩

theorem nnOf_keep {H H2 : Heap} {x : V} {nn : Bool} (hk : keepV x H H2) (h : nnOf H x = some nn) : nnOf H2 x = some nn := by
  unfold nnOf at h
  split at h
  · exact h
  · unfold keepV keepB at hk
    split at h
    · rename_i hH
      cases h
      simp only [hH] at hk
      rcases hk with hk | hk <;> simp [nnOf, hk]
    · rename_i hH
      cases h
      simp only [hH] at hk
      simp [nnOf, hk]
    · cases h
  · cases h

theorem pBin_val {ek op x y H} {K : V → Prop} (h : pBin ek op x y H K) : ∃ v, K v ∧ ∀ (H2 : Heap) (K2 : V → Prop), keepV x H H2 → keepV y H H2 → K2 v → pBin ek op x y H2 K2 := by
  unfold pBin at h
  split at h
  · split at h
    · exact ⟨_, h.2, fun _ _ _ _ h2 => ⟨h.1, h2⟩⟩
    · exact ⟨_, h.2, fun _ _ _ _ h2 => ⟨h.1, h2⟩⟩
    · rename_i op h1 h2
      obtain ⟨v, h3, h4⟩ := pInt_val h.2
      refine ⟨v, h3, fun _ K2 _ _ hk => ?_⟩
      unfold pBin
      simp only
      exact ⟨h.1, h4 K2 hk⟩
  · split at h
    · exact ⟨_, h, fun _ _ _ _ h2 => h2⟩
    · exact ⟨_, h, fun _ _ _ _ h2 => h2⟩
    · exact h.elim
  · split at h
    · exact ⟨_, h.2, fun _ _ _ _ h2 => ⟨h.1, h2⟩⟩
    · exact ⟨_, h, fun _ _ _ _ h2 => h2⟩
    · exact ⟨_, h, fun _ _ _ _ h2 => h2⟩
    · exact h.elim
  · split at h
    · split at h
      · rename_i hb
        exact ⟨_, h, fun _ _ _ _ h2 => by unfold pBin; simp only [hb]; exact h2⟩
      · exact h.elim
    · split at h
      · rename_i hb
        exact ⟨_, h, fun _ _ _ _ h2 => by unfold pBin; simp only [hb]; exact h2⟩
      · exact h.elim
    · exact h.elim
  · rename_i n1 n2 n3 n4
    split at h
    · rename_i q1 q2
      refine ⟨_, h, fun H2 K2 k1 k2 hk => ?_⟩
      unfold pBin
      split
      · exact absurd rfl (n1 _ _ _ _ rfl)
      · exact absurd rfl (n2 _ _ rfl)
      · exact absurd rfl (n3 _ _ rfl)
      · exact absurd rfl (n4 _ _ rfl)
      · simp only [nnOf_keep k1 q1, nnOf_keep k2 q2]
        exact hk
    · rename_i q1 q2
      refine ⟨_, h, fun H2 K2 k1 k2 hk => ?_⟩
      unfold pBin
      split
      · exact absurd rfl (n1 _ _ _ _ rfl)
      · exact absurd rfl (n2 _ _ rfl)
      · exact absurd rfl (n3 _ _ rfl)
      · exact absurd rfl (n4 _ _ rfl)
      · simp only [nnOf_keep k1 q1, nnOf_keep k2 q2]
        exact hk
    · exact h.elim

theorem elems_keep {H H2 : Heap} {x : V} {r} (hk : keepV x H H2) (h : elems H x = some r) : elems H2 x = some r := by
  unfold elems at h
  split at h
  · exact h
  · unfold keepV keepB at hk
    split at h
    · rename_i hH
      simp only [hH] at hk
      rcases hk with hk | hk <;> simpa [elems, hk] using h
    · rename_i hH
      simp only [hH] at hk
      simpa [elems, hk] using h
    · cases h
  · cases h

theorem aop_val {P o ty ev H} {K : V → Heap → Prop} (hq : quietOp o = true) (h : aop P o ty ev H K) :
    ∃ v, K v H ∧ ∀ (H2 : Heap) (K2 : V → Heap → Prop), (∀ x ∈ readV o ev, keepV x H H2) → K2 v H2 → aop P o ty ev H2 K2 := by
  cases o <;> first | (simp [quietOp] at hq; done) | skip
  case move x => exact ⟨_, h, fun _ _ _ h => h⟩
  case assign x => exact ⟨_, h, fun _ _ _ h => h⟩
  case pick c a b =>
    simp only [aop] at h ⊢
    split at h
    · exact ⟨_, h, fun _ _ _ h => h⟩
    · exact h.elim
  case build t ps =>
    simp only [aop] at h ⊢
    split at h
    · exact ⟨_, h.2, fun _ _ _ h2 => ⟨h.1, h2⟩⟩
    · exact h.elim
  case load t a =>
    simp only [aop] at h ⊢
    split at h
    · obtain ⟨v, h1, h2⟩ := pLoad_val h
      exact ⟨v, h1, fun H2 K2 hk hh => h2 H2 _ (hk _ (by simp [readV])) hh⟩
    · exact h.elim
  case nilCheck x =>
    simp only [aop] at h ⊢
    unfold pNil at h ⊢
    split at h
    all_goals first | exact ⟨_, h, fun _ _ _ h => h⟩ | exact h.elim
  case binOp op t x y yt =>
    simp only [aop] at h ⊢
    obtain ⟨v, h1, h2⟩ := pBin_val h
    exact ⟨v, h1, fun H2 K2 hk hh => h2 H2 _ (hk _ (by simp [readV])) (hk _ (by simp [readV])) hh⟩
  case unOp =>
    simp only [aop] at h ⊢
    split at h
    all_goals first | exact ⟨_, h, fun _ _ _ h => h⟩ | exact h.elim
  case convert src dst x =>
    simp only [aop] at h ⊢
    split at h
    · exact ⟨_, h, fun _ _ _ h => h⟩
    · exact ⟨_, h, fun _ _ _ h => h⟩
    · split at h
      · rename_i s xs q1 q2
        have h' := h.2
        split at h'
        · rename_i ns hb
          refine ⟨_, h', fun H2 K2 hk hh => ?_⟩
          simp only [q1, elems_keep (hk _ (by simp [readV])) q2, hb]
          exact ⟨h.1, hh⟩
        · exact h'.elim
      · exact h.elim
    · exact h.elim
  case makeFunc fn first captured =>
    cases fn <;> simp only [aop] at h ⊢
    split at h
    · exact ⟨_, h, fun _ _ _ h => h⟩
    · exact h.elim
  case slice t x lo hi mx =>
    cases mx with
    | some m => exact h.elim
    | none =>
      simp only [aop] at h ⊢
      split at h
      · split at h
        · obtain ⟨v, h1, h2⟩ := pSlice_val h.2
          exact ⟨v, h1, fun H2 K2 hk hh => ⟨h.1, h2 H2 _ (hk _ (by simp [readV])) hh⟩⟩
        · exact h.elim
      · obtain ⟨v, h1, h2⟩ := pSlice_val h.2
        exact ⟨v, h1, fun H2 K2 hk hh => ⟨h.1, h2 H2 _ (hk _ (by simp [readV])) hh⟩⟩
      · exact h.elim
  case fieldAddr t x n =>
    simp only [aop] at h ⊢
    split at h
    · obtain ⟨v, h1, h2⟩ := pFieldAddr_val h.2
      exact ⟨v, h1, fun H2 K2 hk hh => ⟨h.1, h2 _ hh⟩⟩
    · exact h.elim
  case field t x n =>
    simp only [aop] at h ⊢
    split at h
    · split at h
      · exact ⟨_, h, fun _ _ _ h => h⟩
      · exact h.elim
    · exact h.elim
  case indexAddr t x ix =>
    simp only [aop] at h ⊢
    split at h
    · obtain ⟨v, h1, h2⟩ := pIndexAddr_val h
      exact ⟨v, h1, fun H2 K2 hk hh => h2 H2 _ (hk _ (by simp [readV])) hh⟩
    · exact h.elim
  case index t x ix =>
    simp only [aop] at h ⊢
    split at h
    · have h' := h.2
      split at h'
      · exact ⟨_, h', fun _ _ _ hh => ⟨h.1, hh⟩⟩
      · exact h'.elim
    · exact h.elim
  case extract x i =>
    simp only [aop] at h ⊢
    split at h
    · split at h
      · exact ⟨_, h, fun _ _ _ h => h⟩
      · exact h.elim
    · exact h.elim
  case call c =>
    simp only [aop] at h ⊢
    simp only [quietOp] at hq
    split at hq
    · rename_i hc
      simp only [hc] at h ⊢
      split at h
      · split at h
        · obtain ⟨v, h1, h2⟩ := pLen_val h.2
          exact ⟨v, h1, fun H2 K2 _ hh => ⟨h.1, h2 _ hh⟩⟩
        · obtain ⟨v, h1, h2⟩ := pLen_val h.2
          exact ⟨v, h1, fun H2 K2 _ hh => ⟨h.1, h2 _ hh⟩⟩
        · exact h.elim
      · exact h.elim
    · rename_i hc
      simp only [hc] at h ⊢
      split at h
      · split at h
        · exact ⟨_, h, fun _ _ _ h => h⟩
        · exact h.elim
      · exact h.elim
    · rename_i hc
      simp only [hc] at h ⊢
      split at h
      · split at h
        · exact ⟨_, h, fun _ _ _ h => h⟩
        · exact h.elim
      · exact h.elim
    · cases hq

end Go.Sim

namespace Go.Sim

theorem finA_mono {N isG dst e kb v H} {K K' : Env → Heap → Prop} (hk : ∀ x kb, K (Env.put N e dst x kb) H → K' (Env.put N e dst x kb) H) (h : finA N isG dst e K kb v H) : finA N isG dst e K' kb v H := by
  unfold finA at h ⊢
  split at h
  · exact hk _ _ h
  · exact hk _ _ h
  · split at h
    · exact ⟨fun hb => hk _ _ (h.1 hb), fun hb => hk _ _ (h.2 hb)⟩
    · exact h

/-- The step's destination alone changes. -/
theorem aAt_mono {P N ops i e H} {K K' : Env → Heap → Prop} (hk : ∀ x kb H', K (Env.put N e ((ops[i]?).bind (·.dst)) x kb) H' → K' (Env.put N e ((ops[i]?).bind (·.dst)) x kb) H') (hn : ops[i]? = none → K e H → K' e H)
    (h : aAt P N ops i e H K) : aAt P N ops i e H K' := by
  unfold aAt at h ⊢
  split at h
  · exact hn (by assumption) h
  · rename_i o hi
    rw [hi] at hk
    split at h
    · exact h
    · exact hk _ _ _ h
    · split at h
      · exact finA_mono (fun x kb => hk x kb _) h
      · exact aop_mono (fun v H' => finA_mono (fun x kb => hk x kb _)) h

/-- `e` and `e2` agree at these temporaries. -/
def Agree (l : List Nat) (e e2 : Env) : Prop := ∀ t ∈ l, e2.v t = e.v t ∧ e2.k t = e.k t

theorem evalE_agree {P : Program} {e e2 : Env} {t : TypeId} {x : Operand} (h : ∀ i, x = .tmp i → e2.v i = e.v i) : evalE P e2 t x = evalE P e t x := by
  cases x with
  | tmp i => exact h i rfl
  | _ => rfl
theorem knownOf_agree {e e2 : Env} {x : Operand} (h : ∀ i, x = .tmp i → e2.k i = e.k i) : knownOf e2 x = knownOf e x := by
  cases x with
  | tmp i => exact h i rfl
  | const u => cases u <;> rfl
  | _ => rfl

theorem looks_operand {ops : Array Oper} {o : Oper} {i : Nat} (h : Operand.tmp i ∈ o.op.operands) : i ∈ o.looksAt ops :=
  List.mem_append_left _ (List.mem_filterMap.2 ⟨.tmp i, by simpa using h, rfl⟩)

theorem wantA_agree {ops : Array Oper} {o : Oper} {e e2 : Env} (h : Agree (o.looksAt ops) e e2) : wantA ops e2 o = wantA ops e o := by
  unfold wantA
  cases hg : o.guard with
  | none => rfl
  | some gw =>
    obtain ⟨j, want⟩ := gw
    simp only
    cases hd : (ops[j]?).bind (·.dst) with
    | none => rfl
    | some d =>
      have := h d (by simp [Oper.looksAt, hg, hd])
      simp only [this.1, this.2]

theorem copyOf_agree {ops : Array Oper} {o : Oper} {e e2 : Env} (h : Agree (o.looksAt ops) e e2) : copyOf e2 o.op = copyOf e o.op := by
  cases ho : o.op <;> try rfl
  rename_i c a b
  simp only [copyOf]
  rw [knownOf_agree fun i hi => (h i (looks_operand (by rw [ho, hi]; simp [Op.operands]))).2]

theorem copyOf_mem {e : Env} {op : Op} {x : Operand} (h : copyOf e op = some x) : x ∈ op.operands := by
  cases op <;> simp [copyOf] at h
  case move y => subst h; simp [Op.operands]
  case assign y => subst h; simp [Op.operands]
  case pick c a b =>
    split at h <;> cases h <;> simp [Op.operands]

theorem aop_agree {P : Program} {ops : Array Oper} {o : Oper} {e e2 : Env} {H K} (h : Agree (o.looksAt ops) e e2) : aop P o.op o.type (evalE P e2) H K = aop P o.op o.type (evalE P e) H K :=
  aop_congr fun t x hx => evalE_agree fun i hi => (h i (looks_operand (by rw [← hi]; exact hx))).1

theorem readV_mem {o : Op} {ev ev' : TypeId → Operand → V} (h : ∀ t, ∀ x ∈ o.operands, ev t x = ev' t x) : readV o ev = readV o ev' := by
  cases o <;> simp only [readV, Op.operands] at h ⊢
  case load t a => rw [h 0 a (by simp)]
  case indexAddr t x ix => rw [h t x (by simp)]
  case slice t x lo hi mx => rw [h t x (by simp)]
  case convert s d x => rw [h s x (by simp)]
  case binOp op t x y yt => rw [h t x (by simp), h t y (by simp)]

def quietAt (ops : Array Oper) (i : Nat) : Bool :=
  match ops[i]? with
  | some o => quietOp o.op
  | none => false

theorem copy_quiet {e : Env} {op : Op} {x : Operand} (h : copyOf e op = some x) : quietOp op = true := by
  cases op <;> simp [copyOf] at h <;> rfl

/-- What the quiet step at `i` reads. -/
def readAt (P : Program) (ops : Array Oper) (i : Nat) (e : Env) : List V :=
  match ops[i]? with
  | some o => match wantA ops e o with
    | some true => readV o.op (evalE P e)
    | _ => []
  | none => []

structure Calm (P : Program) (N : Nat) (ops : Array Oper) (i : Nat) (o : Oper) (x : V) (kb : Option Bool) (rd : List V) (e : Env) (H : Heap) : Prop where
  step : ∀ e2 H2 (K2 : Env → Heap → Prop), Agree (o.looksAt ops) e e2 → (∀ v ∈ rd, keepV v H H2) → K2 (e2.put N o.dst x kb) H2 → aAt P N ops i e2 H2 K2

theorem aAt_calm {P N ops i o e H} {K : Env → Heap → Prop} (hi : ops[i]? = some o) (hq : quietOp o.op = true) (h : aAt P N ops i e H K) :
    ∃ x kb, K (e.put N o.dst x kb) H ∧ Calm P N ops i o x kb (readAt P ops i e) e H := by
  unfold aAt at h
  rw [hi] at h
  simp only at h
  have fin : ∀ {isG v kb}, (finA N isG o.dst e K kb v H) → ∃ x kb', K (e.put N o.dst x kb') H ∧ ∀ e2 H2 (K2 : Env → Heap → Prop), K2 (e2.put N o.dst x kb') H2 → finA N isG o.dst e2 K2 kb v H2 := by
    intro isG v kb h
    unfold finA at h
    split at h
    · exact ⟨_, _, h, fun e2 H2 K2 h2 => h2⟩
    · exact ⟨_, _, h, fun e2 H2 K2 h2 => h2⟩
    · split at h
      · rename_i b
        cases b
        · exact ⟨_, _, h.2 rfl, fun e2 H2 K2 h2 => ⟨fun hb => (by cases hb), fun _ => h2⟩⟩
        · exact ⟨_, _, h.1 rfl, fun e2 H2 K2 h2 => ⟨fun _ => h2, fun hb => by cases hb⟩⟩
      · exact h.elim
  split at h
  · exact h.elim
  · rename_i hw
    refine ⟨_, _, h, ⟨fun e2 H2 K2 ha _ h2 => ?_⟩⟩
    unfold aAt
    rw [hi]
    simp only [wantA_agree ha, hw]
    exact h2
  · rename_i hw
    split at h
    · rename_i y hc
      obtain ⟨x, kb, h1, h2⟩ := fin h
      refine ⟨x, kb, h1, ⟨fun e2 H2 K2 ha _ hk => ?_⟩⟩
      unfold aAt
      rw [hi]
      simp only [wantA_agree ha, hw, copyOf_agree ha, hc]
      have hy : ∀ j, y = .tmp j → e2.v j = e.v j ∧ e2.k j = e.k j := fun j hj => ha j (looks_operand (by rw [← hj]; exact copyOf_mem hc))
      rw [knownOf_agree fun j hj => (hy j hj).2, evalE_agree fun j hj => (hy j hj).1]
      exact h2 e2 H2 K2 hk
    · rename_i hc
      obtain ⟨v, h1, h2⟩ := aop_val hq h
      obtain ⟨x, kb, h3, h4⟩ := fin h1
      refine ⟨x, kb, h3, ⟨fun e2 H2 K2 ha hkp hk => ?_⟩⟩
      unfold aAt
      rw [hi]
      simp only [wantA_agree ha, hw, copyOf_agree ha, hc]
      rw [aop_agree ha]
      refine h2 H2 _ (fun z hz => hkp z ?_) (h4 e2 H2 K2 hk)
      unfold readAt
      rw [hi]
      simp only [hw]
      exact hz

theorem upd_comm {α : Type} {N d1 d2 : Nat} {x1 x2 : α} {f : Nat → α} (h : d1 ≠ d2) : upd N d1 x1 (upd N d2 x2 f) = upd N d2 x2 (upd N d1 x1 f) := by
  funext t
  simp only [upd_eq]
  by_cases h1 : t = d1
  · subst h1
    simp [h]
  · simp [h1]

theorem put_comm {N : Nat} {e : Env} {d1 d2 : Option Nat} {x1 x2 : V} {k1 k2 : Option Bool} (h : ∀ d, d1 = some d → d2 ≠ some d) : (e.put N d1 x1 k1).put N d2 x2 k2 = (e.put N d2 x2 k2).put N d1 x1 k1 := by
  cases d1 with
  | none => rfl
  | some d1 =>
    cases d2 with
    | none => rfl
    | some d2 =>
      have hne : d2 ≠ d1 := fun e => h d1 rfl (by rw [e])
      simp only [Env.put]
      rw [upd_comm hne, upd_comm hne]

theorem agree_put {N : Nat} {e : Env} {d : Option Nat} {x : V} {kb : Option Bool} {l : List Nat} (h : ∀ t, d = some t → t ∉ l) : Agree l e (e.put N d x kb) := by
  intro t ht
  cases d with
  | none => exact ⟨rfl, rfl⟩
  | some d =>
    simp only [Env.put, upd_eq]
    have : ¬ (t = d ∧ d < N) := fun hh => h d rfl (hh.1 ▸ ht)
    rw [if_neg this, if_neg this]
    exact ⟨rfl, rfl⟩

theorem finA_put {N isG dst e K kb v H} {d x k1} (h : ∀ t, dst = some t → d ≠ some t) (hf : finA N isG dst (Env.put N e d x k1) K kb v H) : finA N isG dst e (fun e' H' => K (Env.put N e' d x k1) H') kb v H := by
  have hh : ∀ y k2, (Env.put N (Env.put N e d x k1) dst y k2) = Env.put N (Env.put N e dst y k2) d x k1 := fun y k2 => put_comm fun t ht hd => h t hd ht
  unfold finA at hf ⊢
  split at hf
  · rw [hh] at hf; exact hf
  · rw [hh] at hf; exact hf
  · split at hf
    · rw [hh, hh] at hf; exact hf
    · exact hf

theorem aAt_put {P N ops j oj} {e : Env} {H} {K : Env → Heap → Prop} {d : Option Nat} {x : V} {kb : Option Bool} (hj : ops[j]? = some oj) (h1 : ∀ t, d = some t → t ∉ oj.looksAt ops) (h2 : ∀ t, d = some t → oj.dst ≠ some t)
    (h : aAt P N ops j (e.put N d x kb) H K) : aAt P N ops j e H (fun e' H' => K (e'.put N d x kb) H') := by
  have ha : Agree (oj.looksAt ops) e (e.put N d x kb) := agree_put h1
  have h3 : ∀ t, oj.dst = some t → d ≠ some t := fun t ht hd => h2 t hd ht
  unfold aAt at h ⊢
  rw [hj] at h ⊢
  simp only at h ⊢
  rw [wantA_agree ha, copyOf_agree ha] at h
  split at h
  · exact h
  · rw [put_comm fun t ht hd => h3 t hd ht] at h; exact h
  · split at h
    · rename_i y hc
      have hy : ∀ j, y = .tmp j → (e.put N d x kb).v j = e.v j ∧ (e.put N d x kb).k j = e.k j := fun j hj => ha j (looks_operand (by rw [← hj]; exact copyOf_mem hc))
      rw [knownOf_agree fun j hj => (hy j hj).2, evalE_agree fun j hj => (hy j hj).1] at h
      exact finA_put h3 h
    · rw [aop_agree ha] at h
      exact aop_mono (fun v H' hh => finA_put h3 hh) h

/-! ### all orders -/
/-- Which operations wait (through others) for `i`. -/
def depL (ops : List Oper) (i : Nat) (D : List Bool) : List Bool :=
  match ops with
  | [] => D
  | o :: r => depL r i (D ++ [o.after.any fun e => Region.binds .any e && (Nat.beq e.on i || D.getD e.on false)])
def depOn (ops : Array Oper) (i j : Nat) : Bool := (depL ops.toList i []).getD j false

theorem depL_spec (i : Nat) : ∀ (r done : List Oper) (D : List Bool), D.length = done.length →
    (∀ j, D.getD j false = true → ∃ o e, done[j]? = some o ∧ e ∈ o.after ∧ Region.binds .any e = true ∧ (e.on = i ∨ D.getD e.on false = true)) →
    ∀ j, (depL r i D).getD j false = true → ∃ o e, (done ++ r)[j]? = some o ∧ e ∈ o.after ∧ Region.binds .any e = true ∧ (e.on = i ∨ (depL r i D).getD e.on false = true)
  | [], done, D, hl, h => by simpa [depL] using h
  | o :: r, done, D, hl, h => by
    simp only [depL]
    have := depL_spec i r (done ++ [o]) (D ++ [o.after.any fun e => Region.binds .any e && (Nat.beq e.on i || D.getD e.on false)]) (by simp [hl]) (fun j hj => ?_)
    · simpa using this
    · have up : ∀ q, D.getD q false = true → (D ++ [o.after.any fun e => Region.binds .any e && (Nat.beq e.on i || D.getD e.on false)]).getD q false = true := by
        intro q hq
        have hql : q < D.length := by
          rcases Nat.lt_or_ge q D.length with hlt | hge
          · exact hlt
          · rw [List.getD_eq_getElem?_getD, List.getElem?_eq_none hge] at hq; cases hq
        rw [List.getD_eq_getElem?_getD, List.getElem?_append_left hql, ← List.getD_eq_getElem?_getD]
        exact hq
      rcases Nat.lt_trichotomy j D.length with hlt | heq | hgt
      · rw [List.getD_eq_getElem?_getD, List.getElem?_append_left hlt, ← List.getD_eq_getElem?_getD] at hj
        obtain ⟨o', e, h1, h2, h3, h4⟩ := h j hj
        exact ⟨o', e, by rw [List.getElem?_append_left (by omega)]; exact h1, h2, h3, h4.imp id (up _)⟩
      · subst heq
        rw [List.getD_eq_getElem?_getD, List.getElem?_append_right (Nat.le_refl _)] at hj
        simp only [Nat.sub_self, List.getElem?_cons_zero, Option.getD_some] at hj
        obtain ⟨e, h2, h3⟩ := Array.any_eq_true'.1 hj
        simp only [Bool.and_eq_true, Bool.or_eq_true] at h3
        refine ⟨o, e, by rw [hl]; simp, h2, h3.1, ?_⟩
        rcases h3.2 with h4 | h4
        · exact .inl (Nat.eq_of_beq_eq_true h4)
        · exact .inr (up _ h4)
      · rw [List.getD_eq_getElem?_getD, List.getElem?_eq_none (by simp; omega)] at hj
        cases hj

theorem depOn_spec {ops : Array Oper} {i j : Nat} (h : depOn ops i j = true) : ∃ o e, ops[j]? = some o ∧ e ∈ o.after ∧ Region.binds .any e = true ∧ (e.on = i ∨ depOn ops i e.on = true) := by
  obtain ⟨o, e, h1, h2, h3, h4⟩ := depL_spec i ops.toList [] [] rfl (fun j hj => by simp at hj) j h
  exact ⟨o, e, by simpa using h1, h2, h3, h4⟩

/-- What early readers saw still stands, for what may come before them. -/
def guardOk (ops : Array Oper) (j : Nat) (H H' : Heap) : List (Nat × List V) → Prop
  | [] => True
  | (i, rd) :: g => match depOn ops i j with
    | true => guardOk ops j H H' g
    | false => keepAll H H' rd (guardOk ops j H H' g)
  where
  keepAll (H H' : Heap) : List V → Prop → Prop
    | [], K => K
    | v :: r, K => keepV v H H' ∧ keepAll H H' r K

theorem keepAll_iff {H H' : Heap} {K : Prop} : ∀ {rd : List V}, guardOk.keepAll H H' rd K ↔ (∀ v ∈ rd, keepV v H H') ∧ K
  | [] => by simp [guardOk.keepAll]
  | v :: r => by simp only [guardOk.keepAll, keepAll_iff, List.mem_cons, forall_eq_or_imp, and_assoc]

theorem guardOk_refl {ops j H} : ∀ g, guardOk ops j H H g
  | [] => trivial
  | (i, rd) :: g => by
    simp only [guardOk]
    split
    · exact guardOk_refl g
    · exact keepAll_iff.2 ⟨fun v _ => keepV_refl v H, guardOk_refl g⟩

theorem guardOk_cons {ops j H H' i rd g} (h : guardOk ops j H H' ((i, rd) :: g)) : (depOn ops i j = false → ∀ v ∈ rd, keepV v H H') ∧ guardOk ops j H H' g := by
  simp only [guardOk] at h
  split at h
  · rename_i hd
    exact ⟨fun h2 => by (rw [hd] at h2; cases h2), h⟩
  · exact ⟨fun _ => (keepAll_iff.1 h).1, (keepAll_iff.1 h).2⟩

def aAnyG (P : Program) (N : Nat) (ops : Array Oper) (K : Env → Heap → Prop) (g : List (Nat × List V)) : Nat → Array Bool → Env → Heap → Prop
  | 0, listed, e, H => Region.ready .any ops listed = [] ∧ K e H
  | f + 1, listed, e, H => (Region.ready .any ops listed = [] → K e H) ∧
    ∀ i ∈ Region.ready .any ops listed, aAt P N ops i e H (fun e' H' => guardOk ops i H H' g ∧ aAnyG P N ops K g f (listed.setIfInBounds i true) e' H')

theorem aAnyG_drop {P N ops K i rd g} : ∀ {f listed e H}, aAnyG P N ops K ((i, rd) :: g) f listed e H → aAnyG P N ops K g f listed e H
  | 0, _, _, _, h => h
  | _ + 1, _, _, _, h => ⟨h.1, fun j hj => aAt_mono (fun _ _ _ hh => ⟨(guardOk_cons hh.1).2, aAnyG_drop hh.2⟩) (fun _ hh => ⟨(guardOk_cons hh.1).2, aAnyG_drop hh.2⟩) (h.2 j hj)⟩

theorem aAnyG_sound {P : Program} {N : Nat} {ops : Array Oper} {K : Env → Heap → Prop} {g} {Q : Exit → Act → World → Prop} : ∀ (f : Nat) {listed : Array Bool} {e : Env} {H : Heap} {w A ρ} {a : Act}, HR w A ρ H → ERep w A ρ H.length N e a → aAnyG P N ops K g f listed e H →
    (∀ e' H' a' w' A' ρ', K e' H' → After N w A ρ H a (dsts ops) e' H' a' w' A' ρ' → Q .normal a' w') → wpAny P .any ops Q f listed a w
  | 0, listed, e, H, w, A, ρ, a, h, he, hK, hQ => ⟨hK.1, hQ _ _ _ _ _ _ hK.2 (After.refl h he)⟩
  | f + 1, listed, e, H, w, A, ρ, a, h, he, hK, hQ => by
    refine ⟨fun hr => hQ _ _ _ _ _ _ (hK.1 hr) (After.refl h he), fun i hi => ?_⟩
    refine aAt_sound h he (hK.2 i hi) fun e' H' a' w' A' ρ' hk haf => ?_
    have haf := haf.mono (fun t ht => mem_dsts ht)
    exact aAnyG_sound f haf.hr haf.er hk.2 fun e2 H2 a2 w2 A2 ρ2 hk2 haf2 => hQ _ _ _ _ _ _ hk2 (haf.trans haf2)

/-- Nothing that waits for `i` has been listed while `i` has not. -/
def DepFree (ops : Array Oper) (i : Nat) (listed : Array Bool) : Prop := ∀ j, depOn ops i j = true → listed.getD j true = true → False

def Free (ops : Array Oper) (i : Nat) (oi : Oper) (listed : Array Bool) : Prop :=
  ∀ (j : Nat) (oj : Oper), ops[j]? = some oj → j ≠ i → listed.getD j true = false → (∀ e ∈ oj.after, Region.binds .any e = true → e.on ≠ i) → oi.apart ops oj = true

theorem listed_comm (l : Array Bool) (i j : Nat) : (l.setIfInBounds i true).setIfInBounds j true = (l.setIfInBounds j true).setIfInBounds i true := by
  by_cases h : i = j
  · subst h; rfl
  · exact Array.setIfInBounds_comm _ _ h

theorem aAnyG_take {P N ops K i oi rd x kb} (hi : ops[i]? = some oi) : ∀ (f : Nat) {listed : Array Bool} {e : Env} {H : Heap} {g}, listed.size = ops.size → i ∈ Region.ready .any ops listed → Free ops i oi listed → DepFree ops i listed → Calm P N ops i oi x kb rd e H →
    aAnyG P N ops K ((i, rd) :: g) f (listed.setIfInBounds i true) (e.put N oi.dst x kb) H → aAnyG P N ops K g (f + 1) listed e H := by
  intro f
  induction f with
  | zero =>
    intro listed e H g hsz hr hfree hdep hc h
    refine ⟨fun h0 => (by rw [h0] at hr; cases hr), fun j hj => ?_⟩
    by_cases hji : j = i
    · subst hji
      exact hc.step e H _ (fun t _ => ⟨rfl, rfl⟩) (fun v _ => keepV_refl v H) ⟨guardOk_refl g, h⟩
    · have hj' := ready_mono hj hji
      rw [h.1] at hj'
      cases hj'
  | succ f ih =>
    intro listed e H g hsz hr hfree hdep hc h
    refine ⟨fun h0 => (by rw [h0] at hr; cases hr), fun j hj => ?_⟩
    by_cases hji : j = i
    · subst hji
      exact hc.step e H _ (fun t _ => ⟨rfl, rfl⟩) (fun v _ => keepV_refl v H) ⟨guardOk_refl g, aAnyG_drop h⟩
    · obtain ⟨hunj, oj, hoj, hallj⟩ := mem_ready.1 hj
      obtain ⟨huni, _⟩ := mem_ready.1 hr
      have hi0 : listed.getD i false = false := by
        have hlt : i < listed.size := by rw [hsz]; exact (Array.getElem?_eq_some_iff.1 hi).1
        simpa [Array.getD, hlt] using huni
      have hne : ∀ e ∈ oj.after, Region.binds .any e = true → e.on ≠ i := fun ed he hb hon => by
        have := hallj ed he hb
        rw [hon, hi0] at this
        cases this
      have hap := Oper.apart_spec (hfree j oj hoj hji hunj hne)
      have hnd : depOn ops i j = false := by
        cases hd : depOn ops i j with
        | false => rfl
        | true =>
          obtain ⟨o, ed, h1, h2, h3, h4⟩ := depOn_spec hd
          rw [hoj] at h1; cases h1
          have hl := hallj ed h2 h3
          rcases h4 with h4 | h4
          · exact absurd h4 (hne ed h2 h3)
          · have hlt : ed.on < listed.size := by
              rcases Nat.lt_or_ge ed.on listed.size with hlt | hge
              · exact hlt
              · simp [Array.getD, Nat.not_lt.2 hge] at hl
            exact (hdep _ h4 (by simpa [Array.getD, hlt] using hl)).elim
      have h1 := aAt_put hoj (fun t ht => hap.1 t ht) (fun t ht => hap.2.1 t ht) (h.2 j (ready_mono hj hji))
      refine aAt_mono (fun y ky H' hh => ?_) (fun hn => by rw [hoj] at hn; cases hn) h1
      obtain ⟨hg, hh⟩ := hh
      obtain ⟨hg1, hg2⟩ := guardOk_cons hg
      refine ⟨hg2, ih (by simpa using hsz) (ready_mono hr (Ne.symm hji)) ?_ ?_ ⟨fun e2 H2 K2 ha hkp hk => ?_⟩ (by rw [listed_comm]; exact hh)⟩
      · intro q oq hq hqi hun hno
        refine hfree q oq hq hqi ?_ hno
        by_cases hqj : j = q
        · subst hqj
          have hlt : j < listed.size := by rw [hsz]; exact (Array.getElem?_eq_some_iff.1 hoj).1
          simp [Array.getD, hlt] at hun
        · rw [getD_set_ne true hqj] at hun
          exact hun
      · intro q hq hl
        by_cases hqj : j = q
        · subst hqj
          rw [hnd] at hq; cases hq
        · rw [getD_set_ne true hqj] at hl
          exact hdep q hq hl
      · have hdst : (ops[j]?).bind (·.dst) = oj.dst := by rw [hoj]; rfl
        have hag : Agree (oi.looksAt ops) e (e.put N ((ops[j]?).bind (·.dst)) y ky) := agree_put fun t ht => hap.2.2 t (by rw [← hdst]; exact ht)
        refine hc.step e2 H2 K2 (fun t ht => ⟨((ha t ht).1).trans (hag t ht).1, ((ha t ht).2).trans (hag t ht).2⟩) (fun v hv => ?_) hk
        have k1 := hg1 hnd v hv
        have k2 := hkp v hv
        unfold keepV at k1 k2 ⊢
        have tr : ∀ id, keepB H H' id → keepB H' H2 id → keepB H H2 id := by
          intro id k1 k2
          unfold keepB at k1 k2 ⊢
          split at k1
          · rename_i hH
            rcases k1 with k1 | k1
            · rw [k1] at k2; exact k2
            · rw [k1] at k2; exact .inr k2
          · rename_i hn hH
            rw [k1] at k2
            split at k2
            · rename_i heq
              cases heq
              exact (hn _ _ _ _ rfl).elim
            · rename_i heq
              cases heq
              exact k2
            · rename_i heq
              cases heq
          · trivial
        split at k1
        · exact tr _ k1 k2
        · exact tr _ k1 k2
        · trivial

end Go.Sim
