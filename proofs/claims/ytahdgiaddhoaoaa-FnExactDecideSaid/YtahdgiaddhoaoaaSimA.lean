/- An evaluator over abstract values: what it says of memory, and the operations (part 1). -/
import Derived.WalkKit

namespace Go.Sim

/-! ## 1. Abstract values -/
inductive V where
  | int (k : IntKind) (n : Int)
  | bool (b : Bool)
  | str (s : ByteArray)
  | agg (cs : List V)
  | tup (vs : List V)
  | sl (nn : Bool) (s : Nat) (xs : List V)
  | nil
  | nili
  | nilf
  | iface (t : TypeId) (v : V)
  | fn (f : FuncId) (caps : List V)
  | loc (s : Nat) (row : V) (j : Nat)
  | ref (id off len : Nat)
  | ptr (id i j : Nat)
  | undef
  deriving Inhabited

abbrev V.i (n : Int) : V := .int .i64 n

def V.cells : V → List V
  | .agg cs => cs
  | v => [v]

def V.one : V → Bool
  | .agg _ => false
  | .tup _ => false
  | .undef => false
  | _ => true

/-- All cells are single values. -/
def V.cellsOk (v : V) : Bool := v.cells.all V.one

/-- An element of `s` cells. -/
def V.wide (s : Nat) (x : V) : Prop := x.cells.length = s ∧ x.cellsOk = true

mutual
/-- No reference into the local heap. -/
def V.static : V → Bool
  | .agg cs => V.statics cs
  | .tup _ => false
  | .iface _ v => v.static
  | .fn _ caps => V.statics caps
  | .ref .. => false
  | .ptr .. => false
  | _ => true
def V.statics : List V → Bool
  | [] => true
  | v :: r => v.static && V.statics r
end

mutual
/-- No memory is read through it at all. -/
def V.flat : V → Bool
  | .agg cs => V.flats cs
  | .tup cs => V.flats cs
  | .iface _ v => v.flat
  | .fn _ caps => V.flats caps
  | .sl nn _ _ => !nn
  | .loc .. => false
  | _ => true
def V.flats : List V → Bool
  | [] => true
  | v :: r => v.flat && V.flats r
end

theorem V.statics_mem {l : List V} (h : V.statics l = true) : ∀ v ∈ l, v.static = true := by
  induction l with
  | nil => intro v hv; cases hv
  | cons a l ih =>
    simp only [V.statics, Bool.and_eq_true] at h
    intro v hv
    rcases List.mem_cons.1 hv with rfl | hv
    · exact h.1
    · exact ih h.2 v hv

theorem V.statics_iff {l : List V} : V.statics l = true ↔ ∀ v ∈ l, v.static = true := by
  refine ⟨V.statics_mem, ?_⟩
  induction l with
  | nil => intro _; rfl
  | cons a l ih =>
    intro h
    simp only [V.statics, Bool.and_eq_true]
    exact ⟨h a List.mem_cons_self, ih fun v hv => h v (List.mem_cons_of_mem _ hv)⟩

theorem V.flats_iff {l : List V} : V.flats l = true ↔ ∀ v ∈ l, v.flat = true := by
  induction l with
  | nil => simp [V.flats]
  | cons a l ih => simp [V.flats, ih]

/-! ## 2. What an abstract value says of a concrete one -/
/-- Immutable memory: the blocks that `A` admits. -/
inductive RS (w : World) (A : Nat → Prop) : V → Value → Prop
  | int (k n) : RS w A (.int k n) (.int k n)
  | bool (b) : RS w A (.bool b) (.bool b)
  | str (s) : RS w A (.str s) (.string s)
  | agg {cs : List V} {us : Array Value} : us.size = cs.length → (∀ (i : Nat) c u, cs[i]? = some c → us[i]? = some u → RS w A c u) → RS w A (.agg cs) (.agg us)
  | slnil (s) : RS w A (.sl false s []) (.slice none 0 0)
  | sl {s : Nat} {xs : List V} {b o cap : Nat} {u : Nat → Nat → Value} : (xs ≠ [] → A b) → xs.length ≤ cap → (∀ x ∈ xs, V.wide s x) →
      (∀ (i : Nat) x (j : Nat) c, xs[i]? = some x → x.cells[j]? = some c → w.cell? ⟨b, o + i * s + j, none⟩ = some (u i j)) →
      (∀ (i : Nat) x (j : Nat) c, xs[i]? = some x → x.cells[j]? = some c → RS w A c (u i j)) → RS w A (.sl true s xs) (.slice (some ⟨b, o, none⟩) xs.length cap)
  | nil : RS w A .nil (.pointer none)
  | nili : RS w A .nili .nilIface
  | nilf : RS w A .nilf .nilFunc
  | iface {t v u} : RS w A v u → RS w A (.iface t v) (.iface t u)
  | fn {f : FuncId} {cs : List V} {us : Array Value} : us.size = cs.length → (∀ (i : Nat) c u, cs[i]? = some c → us[i]? = some u → RS w A c u) → RS w A (.fn f cs) (.func (.func f) #[] us)
  | loc {s : Nat} {row : V} {j b o : Nat} {u : Nat → Value} : A b → V.wide s row → (∀ (j : Nat) c, row.cells[j]? = some c → w.cell? ⟨b, o + j, none⟩ = some (u j)) →
      (∀ (j : Nat) c, row.cells[j]? = some c → RS w A c (u j)) → RS w A (.loc s row j) (.pointer (some ⟨b, o + j, none⟩))
  | undef (u) : RS w A .undef u

structure Loc where
  nn : Bool
  b : Nat
  st : Nat
  s : Nat
  size : Nat
  deriving Inhabited

/-- `n` ids are known. -/
inductive Rep (w : World) (A : Nat → Prop) (ρ : Nat → Loc) (n : Nat) : V → Value → Prop
  | st {v u} : RS w A v u → Rep w A ρ n v u
  | agg {cs : List V} {us : Array Value} : us.size = cs.length → (∀ (i : Nat) c u, cs[i]? = some c → us[i]? = some u → Rep w A ρ n c u) → Rep w A ρ n (.agg cs) (.agg us)
  | tup {cs : List V} {us : Array Value} : us.size = cs.length → (∀ (i : Nat) c u, cs[i]? = some c → us[i]? = some u → Rep w A ρ n c u) → Rep w A ρ n (.tup cs) (.tuple us)
  | iface {t v u} : Rep w A ρ n v u → Rep w A ρ n (.iface t v) (.iface t u)
  | fn {f : FuncId} {cs : List V} {us : Array Value} : us.size = cs.length → (∀ (i : Nat) c u, cs[i]? = some c → us[i]? = some u → Rep w A ρ n c u) → Rep w A ρ n (.fn f cs) (.func (.func f) #[] us)
  | ref1 {id off len cap o : Nat} : id < n → (ρ id).nn = true → len ≤ cap → o + cap * (ρ id).s ≤ (ρ id).size → (cap ≠ 0 → o = (ρ id).st + off * (ρ id).s) →
      Rep w A ρ n (.ref id off len) (.slice (some ⟨(ρ id).b, o, none⟩) len cap)
  | ref0 {id : Nat} : id < n → (ρ id).nn = false → Rep w A ρ n (.ref id 0 0) (.slice none 0 0)
  | ptr {id i j : Nat} : id < n → (ρ id).nn = true → Rep w A ρ n (.ptr id i j) (.pointer (some ⟨(ρ id).b, (ρ id).st + i * (ρ id).s + j, none⟩))

/-! ## 3. The local heap -/
inductive Blk where
  | sl (nn : Bool) (e : TypeId) (s : Nat) (rows : List V)
  | box (e : TypeId) (v : V)
  | fz (nn : Bool) (s : Nat) (rows : List V)
  | dead
  deriving Inhabited

abbrev Heap := List Blk

def Blk.live : Blk → Bool
  | .sl nn _ _ _ => nn
  | .box _ _ => true
  | _ => false

/-- Rows of cells, at block `b` from cell `st` on. -/
def RowsAt (R : V → Value → Prop) (w : World) (b st s : Nat) (rows : List V) : Prop :=
  (∀ x ∈ rows, V.wide s x) ∧ ∀ (i : Nat) x (j : Nat) c, rows[i]? = some x → x.cells[j]? = some c → ∃ u, w.cell? ⟨b, st + i * s + j, none⟩ = some u ∧ R c u

def Shape (w : World) (L : Loc) (e : TypeId) : Prop := ∃ cs, w.heap[L.b]? = some (.cells cs e (0, 0)) ∧ cs.size = L.size

def BlkRep (w : World) (A : Nat → Prop) (ρ : Nat → Loc) (n : Nat) (L : Loc) : Blk → Prop
  | .sl nn e s rows => L.nn = nn ∧ L.s = s ∧ 0 < s ∧ (nn = false → rows = []) ∧ (nn = true → Shape w L e ∧ L.st + rows.length * s ≤ L.size ∧ RowsAt (RS w A) w L.b L.st s rows)
  | .box e v => L.nn = true ∧ L.st = 0 ∧ L.s = v.cells.length ∧ L.size = v.cells.length ∧ Shape w L e ∧ RowsAt (Rep w A ρ n) w L.b 0 L.s [v]
  | .fz nn s rows => L.nn = nn ∧ L.s = s ∧ (nn = false → rows = []) ∧ (nn = true → (rows ≠ [] → A L.b) ∧ RowsAt (RS w A) w L.b L.st s rows)
  | .dead => True

/-- How many cells an element of a slice's block takes. -/
def Heap.width (H : Heap) (id : Nat) : Option Nat :=
  match H[id]? with
  | some (.sl _ _ s _) => some s
  | some (.fz _ s _) => some s
  | _ => none

def LiveAt (H : Heap) (i : Nat) : Prop := ∃ k, H[i]? = some k ∧ k.live = true

structure HR (w : World) (A : Nat → Prop) (ρ : Nat → Loc) (H : Heap) : Prop where
  rep : ∀ i k, H[i]? = some k → BlkRep w A ρ H.length (ρ i) k
  sep : ∀ i j, LiveAt H i → LiveAt H j → i ≠ j → (ρ i).b ≠ (ρ j).b
  out : ∀ i, LiveAt H i → ¬ A (ρ i).b
  lt : ∀ b, A b → b < w.heap.size

/-- From one moment to a later one. -/
structure Ext (w : World) (A : Nat → Prop) (ρ : Nat → Loc) (H : Heap) (w' : World) (A' : Nat → Prop) (ρ' : Nat → Loc) (H' : Heap) : Prop where
  rep : ∀ v u, Rep w A ρ H.length v u → Rep w' A' ρ' H'.length v u
  os : w'.os = w.os
  tape : w'.tape = w.tape
  output : w'.output = w.output
  size : w.heap.size ≤ w'.heap.size
  blk : ∀ b, b < w.heap.size → (∀ i, LiveAt H i → b ≠ (ρ i).b) → w'.heap[b]? = w.heap[b]?
  loc : ∀ i, i < H.length → ρ' i = ρ i
  len : H.length ≤ H'.length
  own : ∀ i, LiveAt H' i → (∃ j, LiveAt H j ∧ (ρ' i).b = (ρ j).b) ∨ w.heap.size ≤ (ρ' i).b
  adm : ∀ b, A' b → A b ∨ (∃ j, LiveAt H j ∧ b = (ρ j).b) ∨ w.heap.size ≤ b

theorem Ext.refl (w : World) (A : Nat → Prop) (ρ : Nat → Loc) (H : Heap) : Ext w A ρ H w A ρ H :=
  ⟨fun _ _ h => h, rfl, rfl, rfl, Nat.le_refl _, fun _ _ _ => rfl, fun _ _ => rfl, Nat.le_refl _, fun i h => .inl ⟨i, h, rfl⟩, fun _ h => .inl h⟩

theorem Ext.trans {w A ρ H w1 A1 ρ1 H1 w2 A2 ρ2 H2} (h : Ext w A ρ H w1 A1 ρ1 H1) (g : Ext w1 A1 ρ1 H1 w2 A2 ρ2 H2) : Ext w A ρ H w2 A2 ρ2 H2 where
  rep v u hr := g.rep v u (h.rep v u hr)
  os := g.os.trans h.os
  tape := g.tape.trans h.tape
  output := g.output.trans h.output
  size := Nat.le_trans h.size g.size
  blk b hb hn := by
    rw [g.blk b (Nat.lt_of_lt_of_le hb h.size) ?_, h.blk b hb hn]
    intro i hi e
    rcases h.own i hi with ⟨j, hj, he⟩ | hle
    · exact hn j hj (e.trans he)
    · omega
  loc i hi := (g.loc i (Nat.lt_of_lt_of_le hi h.len)).trans (h.loc i hi)
  len := Nat.le_trans h.len g.len
  own i hi := by
    rcases g.own i hi with ⟨j, hj, he⟩ | hle
    · rcases h.own j hj with ⟨k, hk, he'⟩ | hle
      · exact .inl ⟨k, hk, he.trans he'⟩
      · exact .inr (he ▸ hle)
    · exact .inr (Nat.le_trans h.size hle)
  adm b hb := by
    rcases g.adm b hb with h1 | ⟨j, hj, rfl⟩ | hle
    · exact h.adm b h1
    · rcases h.own j hj with ⟨k, hk, he'⟩ | hle
      · exact .inr (.inl ⟨k, hk, he'⟩)
      · exact .inr (.inr hle)
    · exact .inr (.inr (Nat.le_trans h.size hle))

/-! ## 4. Small facts -/
theorem cell_same {w w' : World} {b o : Nat} (h : w'.heap[b]? = w.heap[b]?) : w'.cell? ⟨b, o, none⟩ = w.cell? ⟨b, o, none⟩ := by simp [World.cell?, h]

theorem RS.mono {w w' : World} {A A' : Nat → Prop} (hA : ∀ b, A b → A' b) (hw : ∀ b, A b → w'.heap[b]? = w.heap[b]?) : ∀ {v u}, RS w A v u → RS w' A' v u := by
  intro v u h
  induction h with
  | int => exact .int _ _
  | bool => exact .bool _
  | str => exact .str _
  | agg hs _ ih => exact .agg hs ih
  | slnil => exact .slnil _
  | sl h1 h2 h3 h4 _ ih =>
    refine .sl (fun hx => hA _ (h1 hx)) h2 h3 (fun i x j c hi hj => ?_) ih
    rw [cell_same (hw _ (h1 (fun e => by rw [e] at hi; simp at hi)))]
    exact h4 i x j c hi hj
  | nil => exact .nil
  | nili => exact .nili
  | nilf => exact .nilf
  | iface _ ih => exact .iface ih
  | fn hs _ ih => exact .fn hs ih
  | loc h1 h2 h3 _ ih =>
    refine .loc (hA _ h1) h2 (fun j c hj => ?_) ih
    rw [cell_same (hw _ h1)]
    exact h3 j c hj
  | undef => exact .undef _

theorem RS.of_flat {w w' : World} {A A' : Nat → Prop} : ∀ {v u}, RS w A v u → v.flat = true → RS w' A' v u := by
  intro v u h
  induction h with
  | int => intro _; exact .int _ _
  | bool => intro _; exact .bool _
  | str => intro _; exact .str _
  | agg hs _ ih =>
    intro hf
    refine .agg hs fun i c u hc hu => ih i c u hc hu ?_
    exact V.flats_iff.1 hf c (List.mem_of_getElem? hc)
  | slnil => intro _; exact .slnil _
  | sl h1 h2 h3 h4 _ ih => intro hf; simp [V.flat] at hf
  | nil => intro _; exact .nil
  | nili => intro _; exact .nili
  | nilf => intro _; exact .nilf
  | iface _ ih => intro hf; exact .iface (ih hf)
  | fn hs _ ih =>
    intro hf
    refine .fn hs fun i c u hc hu => ih i c u hc hu ?_
    exact V.flats_iff.1 hf c (List.mem_of_getElem? hc)
  | loc h1 h2 h3 _ ih => intro hf; simp [V.flat] at hf
  | undef => intro _; exact .undef _

theorem RS.static {w A v u} (h : RS w A v u) : v.static = true := by
  induction h with
  | agg hs _ ih =>
    refine V.statics_iff.2 fun c hc => ?_
    obtain ⟨i, hi⟩ := List.getElem?_of_mem hc
    obtain ⟨hl, _⟩ := List.getElem?_eq_some_iff.1 hi
    exact ih i c _ hi (Array.getElem?_eq_getElem (by omega))
  | fn hs _ ih =>
    refine V.statics_iff.2 fun c hc => ?_
    obtain ⟨i, hi⟩ := List.getElem?_of_mem hc
    obtain ⟨hl, _⟩ := List.getElem?_eq_some_iff.1 hi
    exact ih i c _ hi (Array.getElem?_eq_getElem (by omega))
  | iface _ ih => exact ih
  | _ => rfl

theorem Rep.rs {w A ρ n v u} (h : Rep w A ρ n v u) (hs : v.static = true) : RS w A v u := by
  induction h with
  | st h => exact h
  | agg hl _ ih => exact .agg hl fun i c u hc hu => ih i c u hc hu (V.statics_iff.1 hs c (List.mem_of_getElem? hc))
  | tup => simp [V.static] at hs
  | iface _ ih => exact .iface (ih hs)
  | fn hl _ ih => exact .fn hl fun i c u hc hu => ih i c u hc hu (V.statics_iff.1 hs c (List.mem_of_getElem? hc))
  | ref1 => simp [V.static] at hs
  | ref0 => simp [V.static] at hs
  | ptr => simp [V.static] at hs

/-- A later world, more admitted blocks, the same places. -/
theorem Rep.mono {w w' : World} {A A' : Nat → Prop} {ρ ρ' : Nat → Loc} {n n' : Nat} (hA : ∀ b, A b → A' b) (hw : ∀ b, A b → w'.heap[b]? = w.heap[b]?) (hn : n ≤ n') (hρ : ∀ i, i < n → ρ' i = ρ i) :
    ∀ {v u}, Rep w A ρ n v u → Rep w' A' ρ' n' v u := by
  intro v u h
  induction h with
  | st h => exact .st (h.mono hA hw)
  | agg hl _ ih => exact .agg hl ih
  | tup hl _ ih => exact .tup hl ih
  | iface _ ih => exact .iface ih
  | fn hl _ ih => exact .fn hl ih
  | ref1 h1 h2 h3 h4 h5 =>
    rw [← hρ _ h1] at h2 h4 h5 ⊢
    exact .ref1 (Nat.lt_of_lt_of_le h1 hn) h2 h3 h4 h5
  | ref0 h1 h2 =>
    rw [← hρ _ h1] at h2
    exact .ref0 (Nat.lt_of_lt_of_le h1 hn) h2
  | ptr h1 h2 =>
    rw [← hρ _ h1] at h2 ⊢
    exact .ptr (Nat.lt_of_lt_of_le h1 hn) h2

theorem Rep.agg_inv {w A ρ n cs u} (h : Rep w A ρ n (.agg cs) u) : ∃ us : Array Value, u = .agg us ∧ us.size = cs.length ∧ ∀ (i : Nat) c u, cs[i]? = some c → us[i]? = some u → Rep w A ρ n c u := by
  cases h with
  | st h => cases h with | agg hs hc => exact ⟨_, rfl, hs, fun i c u h1 h2 => .st (hc i c u h1 h2)⟩
  | agg hs hc => exact ⟨_, rfl, hs, hc⟩
theorem Rep.tup_inv {w A ρ n cs u} (h : Rep w A ρ n (.tup cs) u) : ∃ us : Array Value, u = .tuple us ∧ us.size = cs.length ∧ ∀ (i : Nat) c u, cs[i]? = some c → us[i]? = some u → Rep w A ρ n c u := by
  cases h with
  | st h => cases h
  | tup hs hc => exact ⟨_, rfl, hs, hc⟩
theorem Rep.fn_inv {w A ρ n f cs u} (h : Rep w A ρ n (.fn f cs) u) : ∃ us : Array Value, u = .func (.func f) #[] us ∧ us.size = cs.length ∧ ∀ (i : Nat) c u, cs[i]? = some c → us[i]? = some u → Rep w A ρ n c u := by
  cases h with
  | st h => cases h with | fn hs hc => exact ⟨_, rfl, hs, fun i c u h1 h2 => .st (hc i c u h1 h2)⟩
  | fn hs hc => exact ⟨_, rfl, hs, hc⟩
theorem Rep.int_inv {w A ρ n k x u} (h : Rep w A ρ n (.int k x) u) : u = .int k x := by
  cases h with | st h => cases h; rfl
theorem Rep.bool_inv {w A ρ n x u} (h : Rep w A ρ n (.bool x) u) : u = .bool x := by
  cases h with | st h => cases h; rfl
theorem Rep.str_inv {w A ρ n x u} (h : Rep w A ρ n (.str x) u) : u = .string x := by
  cases h with | st h => cases h; rfl
theorem Rep.int {w A ρ n k x} : Rep w A ρ n (.int k x) (.int k x) := .st (.int _ _)
theorem Rep.bool {w A ρ n x} : Rep w A ρ n (.bool x) (.bool x) := .st (.bool _)
theorem Rep.str {w A ρ n x} : Rep w A ρ n (.str x) (.string x) := .st (.str _)
theorem Rep.undef {w A ρ n u} : Rep w A ρ n .undef u := .st (.undef _)

/-- The cells of a value. -/
theorem Rep.cells_size {w A ρ n v u} (h : Rep w A ρ n v u) (hv : v ≠ .undef) (ht : ∀ cs, v ≠ .tup cs) : u.cells.size = v.cells.length := by
  cases h with
  | st h => cases h <;> simp_all [Value.cells, V.cells]
  | _ => simp_all [Value.cells, V.cells]
theorem Rep.cells {w A ρ n v u} (h : Rep w A ρ n v u) (hv : v ≠ .undef) (j : Nat) (c : V) (x : Value) (hc : v.cells[j]? = some c) (hx : u.cells[j]? = some x) : Rep w A ρ n c x := by
  have one : ∀ {v u}, Rep w A ρ n v u → v.cells = [v] → u.cells = #[u] → v.cells[j]? = some c → u.cells[j]? = some x → Rep w A ρ n c x := by
    intro v u h hv hu hc hx
    rw [hv] at hc; rw [hu] at hx
    cases j with
    | zero => simp at hc hx; subst hc; subst hx; exact h
    | succ j => simp at hc
  cases h with
  | st h =>
    have h' := h
    cases h with
    | agg hs h => exact .st (h j c x hc hx)
    | undef => exact absurd rfl hv
    | _ => exact one (.st h') rfl rfl hc hx
  | agg hs h => exact h j c x hc hx
  | tup hs h => exact one (.tup hs h) rfl rfl hc hx
  | iface h => exact one (.iface h) rfl rfl hc hx
  | fn hs h => exact one (.fn hs h) rfl rfl hc hx
  | ref1 h1 h2 h3 h4 h5 => exact one (.ref1 h1 h2 h3 h4 h5) rfl rfl hc hx
  | ref0 h1 h2 => exact one (.ref0 h1 h2) rfl rfl hc hx
  | ptr h1 h2 => exact one (.ptr h1 h2) rfl rfl hc hx

end Go.Sim

namespace Go.Sim

/-! ## 5. Steps of the world -/
structure WStep (w w' : World) (T : Nat → Prop) : Prop where
  os : w'.os = w.os
  tape : w'.tape = w.tape
  output : w'.output = w.output
  size : w.heap.size ≤ w'.heap.size
  blk : ∀ b, b < w.heap.size → ¬ T b → w'.heap[b]? = w.heap[b]?

theorem LiveAt.lt {H : Heap} {i : Nat} (h : LiveAt H i) : i < H.length := by
  obtain ⟨k, hk, _⟩ := h
  exact (List.getElem?_eq_some_iff.1 hk).1

theorem BlkRep.shape {w A ρ n L k} (h : BlkRep w A ρ n L k) (hl : k.live = true) : ∃ e, Shape w L e := by
  cases k with
  | sl nn e s rows => exact ⟨e, (h.2.2.2.2 hl).1⟩
  | box e v => exact ⟨e, h.2.2.2.2.1⟩
  | fz => cases hl
  | dead => cases hl

theorem Shape.lt {w L e} (h : Shape w L e) : L.b < w.heap.size := by
  obtain ⟨cs, h, _⟩ := h
  exact (Array.getElem?_eq_some_iff.1 h).1

theorem HR.live_lt {w A ρ H} (h : HR w A ρ H) {i : Nat} (hi : LiveAt H i) : (ρ i).b < w.heap.size := by
  obtain ⟨k, hk, hl⟩ := hi
  obtain ⟨e, he⟩ := (h.rep i k hk).shape hl
  exact he.lt

theorem Shape.same {w w' L e} (h : Shape w L e) (hb : w'.heap[L.b]? = w.heap[L.b]?) : Shape w' L e := by
  obtain ⟨cs, h1, h2⟩ := h
  exact ⟨cs, hb.trans h1, h2⟩

theorem RowsAt.same {R R' : V → Value → Prop} {w w' b st s rows} (h : RowsAt R w b st s rows) (hR : ∀ v u, R v u → R' v u) (hb : rows ≠ [] → w'.heap[b]? = w.heap[b]?) : RowsAt R' w' b st s rows := by
  refine ⟨h.1, fun i x j c hx hc => ?_⟩
  obtain ⟨u, h1, h2⟩ := h.2 i x j c hx hc
  exact ⟨u, by rw [cell_same (hb (fun e => by rw [e] at hx; simp at hx))]; exact h1, hR _ _ h2⟩

theorem BlkRep.mono {w w' A A' ρ ρ' n n' L k} (h : BlkRep w A ρ n L k) (hA : ∀ b, A b → A' b) (hw : ∀ b, A b → w'.heap[b]? = w.heap[b]?) (hb : k.live = true → w'.heap[L.b]? = w.heap[L.b]?)
    (hn : n ≤ n') (hρ : ∀ i, i < n → ρ' i = ρ i) : BlkRep w' A' ρ' n' L k := by
  cases k with
  | sl nn e s rows =>
    obtain ⟨h1, h2, h3, h4, h5⟩ := h
    refine ⟨h1, h2, h3, h4, fun hn' => ?_⟩
    obtain ⟨h6, h7, h8⟩ := h5 hn'
    exact ⟨h6.same (hb hn'), h7, h8.same (fun v u hr => hr.mono hA hw) (fun _ => hb hn')⟩
  | box e v =>
    obtain ⟨h1, h2, h3, h4, h5, h6⟩ := h
    exact ⟨h1, h2, h3, h4, h5.same (hb rfl), h6.same (fun v u hr => hr.mono hA hw hn hρ) (fun _ => hb rfl)⟩
  | fz nn s rows =>
    obtain ⟨h1, h2, h3, h4⟩ := h
    refine ⟨h1, h2, h3, fun hn' => ?_⟩
    obtain ⟨h5, h6⟩ := h4 hn'
    exact ⟨fun hr => hA _ (h5 hr), h6.same (fun v u hr => hr.mono hA hw) (fun hr => hw _ (h5 hr))⟩
  | dead => trivial

/-- The one law for what happens to the heap while the admitted blocks stay. -/
theorem HR.next {w A ρ H} (h : HR w A ρ H) {w' : World} {T : Nat → Prop} (hw : WStep w w' T) (hT : ∀ b, T b → ∃ i, LiveAt H i ∧ b = (ρ i).b)
    {H' : Heap} {ρ' : Nat → Loc} (hlen : H.length ≤ H'.length) (hρ : ∀ i, i < H.length → ρ' i = ρ i)
    (hk : ∀ i k, H'[i]? = some k → (H[i]? = some k ∧ (k.live = true → ¬ T (ρ i).b)) ∨ BlkRep w' A ρ' H'.length (ρ' i) k)
    (hsep : ∀ i j, LiveAt H' i → LiveAt H' j → i ≠ j → (ρ' i).b ≠ (ρ' j).b)
    (hown : ∀ i, LiveAt H' i → (∃ j, LiveAt H j ∧ (ρ' i).b = (ρ j).b) ∨ w.heap.size ≤ (ρ' i).b) :
    HR w' A ρ' H' ∧ Ext w A ρ H w' A ρ' H' := by
  have hAw : ∀ b, A b → w'.heap[b]? = w.heap[b]? := fun b hb => hw.blk b (h.lt b hb) fun ht => by
    obtain ⟨i, hi, rfl⟩ := hT b ht
    exact h.out i hi hb
  constructor
  · refine ⟨fun i k hi => ?_, hsep, fun i hi ha => ?_, fun b hb => Nat.lt_of_lt_of_le (h.lt b hb) hw.size⟩
    · rcases hk i k hi with ⟨h1, h2⟩ | h1
      · have hi' : i < H.length := (List.getElem?_eq_some_iff.1 h1).1
        rw [hρ i hi']
        refine (h.rep i k h1).mono (fun _ h => h) hAw (fun hl => ?_) hlen hρ
        exact hw.blk _ (h.live_lt ⟨k, h1, hl⟩) (h2 hl)
      · exact h1
    · rcases hown i hi with ⟨j, hj, he⟩ | hle
      · exact h.out j hj (he ▸ ha)
      · have := h.lt _ ha
        omega
  · exact {
      rep := fun v u hr => hr.mono (fun _ h => h) hAw hlen hρ
      os := hw.os, tape := hw.tape, output := hw.output, size := hw.size
      blk := fun b hb hn => hw.blk b hb fun ht => by
        obtain ⟨i, hi, e⟩ := hT b ht
        exact hn i hi e
      loc := hρ, len := hlen, own := hown, adm := fun b hb => .inl hb }

def ext (ρ : Nat → Loc) (n : Nat) (L : Loc) : Nat → Loc := fun i => if i = n then L else ρ i
theorem ext_new {ρ n L} : ext ρ n L n = L := by simp [ext]
theorem ext_old {ρ n L i} (h : i < n) : ext ρ n L i = ρ i := by simp [ext, show i ≠ n by omega]

theorem snoc_inv {α : Type} {l : List α} {a b : α} {i : Nat} (h : (l ++ [a])[i]? = some b) : (i < l.length ∧ l[i]? = some b) ∨ (i = l.length ∧ b = a) := by
  rcases Nat.lt_or_ge i l.length with hi | hi
  · rw [List.getElem?_append_left hi] at h
    exact .inl ⟨hi, h⟩
  · rw [List.getElem?_append_right hi] at h
    by_cases e : i = l.length
    · subst e
      simp at h
      exact .inr ⟨rfl, h.symm⟩
    · rw [List.getElem?_eq_none (by simp; omega)] at h
      cases h

theorem LiveAt.append {H : Heap} {k : Blk} {i : Nat} (h : LiveAt (H ++ [k]) i) : LiveAt H i ∨ (i = H.length ∧ k.live = true) := by
  obtain ⟨k', hk, hl⟩ := h
  rcases snoc_inv hk with ⟨_, h⟩ | ⟨rfl, rfl⟩
  · exact .inl ⟨k', h, hl⟩
  · exact .inr ⟨rfl, hl⟩

/-- A new block. `w'`: the old world with one block more (orders may have been drawn). -/
theorem HR.fresh {w A ρ H} (h : HR w A ρ H) {w' : World} (hw : WStep w w' (fun _ => False)) {L : Loc} {k : Blk} (hb : k.live = true → w.heap.size ≤ L.b)
    (hk : BlkRep w' A (ext ρ H.length L) (H.length + 1) L k) : HR w' A (ext ρ H.length L) (H ++ [k]) ∧ Ext w A ρ H w' A (ext ρ H.length L) (H ++ [k]) := by
  refine h.next hw (fun b hb => hb.elim) (by simp) (fun i hi => ext_old hi) ?_ ?_ ?_
  · intro i k' hi
    rcases snoc_inv hi with ⟨_, hi⟩ | ⟨rfl, rfl⟩
    · exact .inl ⟨hi, fun _ h => h⟩
    · refine .inr ?_
      rw [ext_new]
      simpa using hk
  · intro i j hi hj hne
    rcases hi.append with hi | ⟨rfl, hl⟩ <;> rcases hj.append with hj | ⟨rfl, hl⟩
    · rw [ext_old hi.lt, ext_old hj.lt]
      exact h.sep i j hi hj hne
    · rw [ext_old hi.lt, ext_new]
      have := h.live_lt hi
      have := hb hl
      omega
    · rw [ext_old hj.lt, ext_new]
      have := h.live_lt hj
      have := hb hl
      omega
    · exact absurd rfl hne
  · intro i hi
    rcases hi.append with hi | ⟨rfl, hl⟩
    · exact .inl ⟨i, hi, by rw [ext_old hi.lt]⟩
    · exact .inr (by rw [ext_new]; exact hb hl)

theorem LiveAt.set {H : Heap} {k : Blk} {i j : Nat} (h : LiveAt (H.set j k) i) (hj : LiveAt H j) : LiveAt H i := by
  obtain ⟨k', hk, hl⟩ := h
  by_cases e : j = i
  · subst e; exact hj
  · rw [List.getElem?_set_ne e] at hk
    exact ⟨k', hk, hl⟩

/-- A store into a live block. -/
theorem HR.store {w A ρ H} (h : HR w A ρ H) {id : Nat} (hid : LiveAt H id) {w' : World} (hw : WStep w w' (fun b => b = (ρ id).b)) {k : Blk}
    (hk : BlkRep w' A ρ H.length (ρ id) k) : HR w' A ρ (H.set id k) ∧ Ext w A ρ H w' A ρ (H.set id k) := by
  refine h.next hw (fun b hb => ⟨id, hid, hb⟩) (by simp) (fun i hi => rfl) ?_ ?_ ?_
  · intro i k' hi
    by_cases e : id = i
    · subst e
      rw [List.getElem?_set_self hid.lt] at hi
      cases hi
      exact .inr (by simpa using hk)
    · rw [List.getElem?_set_ne e] at hi
      exact .inl ⟨hi, fun hl he => h.sep i id ⟨k', hi, hl⟩ hid (fun x => e x.symm) he⟩
  · intro i j hi hj hne
    exact h.sep i j (hi.set hid) (hj.set hid) hne
  · intro i hi
    exact .inl ⟨i, hi.set hid, rfl⟩

theorem LiveAt.kill {H : Heap} {i j : Nat} (h : LiveAt (H.set j .dead) i) : LiveAt H i ∧ i ≠ j := by
  obtain ⟨k', hk, hl⟩ := h
  by_cases e : j = i
  · subst e
    have hlt := (List.getElem?_eq_some_iff.1 hk).1
    simp at hlt
    rw [List.getElem?_set_self (by simpa using hlt)] at hk
    cases hk
    cases hl
  · rw [List.getElem?_set_ne e] at hk
    exact ⟨⟨k', hk, hl⟩, fun x => e x.symm⟩

/-- A block is forgotten. -/
theorem HR.kill {w A ρ H} (h : HR w A ρ H) (id : Nat) : HR w A ρ (H.set id .dead) ∧ Ext w A ρ H w A ρ (H.set id .dead) := by
  refine h.next (T := fun _ => False) ⟨rfl, rfl, rfl, Nat.le_refl _, fun _ _ _ => rfl⟩ (fun _ hb => hb.elim) (by simp) (fun _ _ => rfl) (fun i k hi => ?_)
    (fun i j hi hj hne => h.sep i j hi.kill.1 hj.kill.1 hne) (fun i hi => .inl ⟨i, hi.kill.1, rfl⟩)
  by_cases e : id = i
  · subst e
    have hlt := (List.getElem?_eq_some_iff.1 hi).1
    rw [List.getElem?_set_self (by simpa using hlt)] at hi
    cases hi
    exact .inr trivial
  · rw [List.getElem?_set_ne e] at hi
    exact .inl ⟨hi, fun _ h => h⟩

/-- Block `id` goes on under a new id: written in place, or copied into a new block. -/
theorem HR.moved {w A ρ H} (h : HR w A ρ H) {id : Nat} (hid : LiveAt H id) {w' : World} (hw : WStep w w' (fun b => b = (ρ id).b)) {L : Loc} {k : Blk}
    (hb : L.b = (ρ id).b ∨ w.heap.size ≤ L.b) (hk : BlkRep w' A (ext ρ H.length L) (H.length + 1) L k) :
    HR w' A (ext ρ H.length L) (H.set id .dead ++ [k]) ∧ Ext w A ρ H w' A (ext ρ H.length L) (H.set id .dead ++ [k]) := by
  refine h.next hw (fun b hb => ⟨id, hid, hb⟩) (by simp) (fun i hi => ext_old hi) ?_ ?_ ?_
  · intro i k' hi
    rcases snoc_inv hi with ⟨hl, hi⟩ | ⟨rfl, rfl⟩
    · have hl : i < H.length := by simpa using hl
      by_cases e : id = i
      · subst e
        rw [List.getElem?_set_self hl] at hi
        cases hi
        exact .inr trivial
      · rw [List.getElem?_set_ne e] at hi
        exact .inl ⟨hi, fun hl he => h.sep i id ⟨k', hi, hl⟩ hid (fun x => e x.symm) he⟩
    · simp only [List.length_set]
      refine .inr ?_
      rw [ext_new]
      simpa using hk
  · intro i j hi hj hne
    rcases hi.append with hi | ⟨rfl, _⟩ <;> rcases hj.append with hj | ⟨rfl, _⟩
    · have hi := hi.kill; have hj := hj.kill
      rw [ext_old hi.1.lt, ext_old hj.1.lt]
      exact h.sep i j hi.1 hj.1 hne
    · have hi := hi.kill
      simp only [List.length_set]
      rw [ext_old hi.1.lt, ext_new]
      have := h.live_lt hi.1
      rcases hb with hb | hb
      · rw [hb]; exact h.sep i id hi.1 hid hi.2
      · omega
    · have hj := hj.kill
      simp only [List.length_set]
      rw [ext_old hj.1.lt, ext_new]
      have := h.live_lt hj.1
      rcases hb with hb | hb
      · rw [hb]; exact fun e => h.sep j id hj.1 hid hj.2 e.symm
      · omega
    · exact absurd rfl hne
  · intro i hi
    rcases hi.append with hi | ⟨rfl, _⟩
    · exact .inl ⟨i, hi.kill.1, by rw [ext_old hi.kill.1.lt]⟩
    · simp only [List.length_set]
      rw [ext_new]
      rcases hb with hb | hb
      · exact .inl ⟨id, hid, hb⟩
      · exact .inr hb

/-- A slice's block is written no more. -/
theorem HR.freeze {w A ρ H} (h : HR w A ρ H) {id : Nat} {nn e s rows} (hid : H[id]? = some (.sl nn e s rows)) :
    ∃ A', HR w A' ρ (H.set id (.fz nn s rows)) ∧ Ext w A ρ H w A' ρ (H.set id (.fz nn s rows)) := by
  have hb := h.rep id _ hid
  have hlt : id < H.length := (List.getElem?_eq_some_iff.1 hid).1
  have liv : ∀ {i}, LiveAt (H.set id (.fz nn s rows)) i → LiveAt H i ∧ i ≠ id := by
    intro i hi
    obtain ⟨k', hk, hl⟩ := hi
    by_cases e : id = i
    · subst e
      rw [List.getElem?_set_self hlt] at hk
      cases hk; cases hl
    · rw [List.getElem?_set_ne e] at hk
      exact ⟨⟨k', hk, hl⟩, fun x => e x.symm⟩
  refine ⟨fun b => A b ∨ (nn = true ∧ b = (ρ id).b), ⟨fun i k hi => ?_, fun i j hi hj => h.sep i j (liv hi).1 (liv hj).1, fun i hi ha => ?_, fun b ha => ?_⟩, ?_⟩
  · by_cases e : id = i
    · subst e
      rw [List.getElem?_set_self hlt] at hi
      cases hi
      obtain ⟨h1, h2, h3, h4, h5⟩ := hb
      refine ⟨h1, h2, h4, fun hn => ?_⟩
      exact ⟨fun _ => .inr ⟨hn, rfl⟩, (h5 hn).2.2.same (fun v u hr => hr.mono (fun _ h => .inl h) (fun _ _ => rfl)) (fun _ => rfl)⟩
    · rw [List.getElem?_set_ne e] at hi
      exact (h.rep i k hi).mono (fun _ h => .inl h) (fun _ _ => rfl) (fun _ => rfl) (by simp) (fun _ _ => rfl)
  · rcases ha with ha | ⟨hn, he⟩
    · exact h.out i (liv hi).1 ha
    · exact h.sep i id (liv hi).1 ⟨_, hid, hn⟩ (liv hi).2 he
  · rcases ha with ha | ⟨hn, rfl⟩
    · exact h.lt b ha
    · exact h.live_lt ⟨_, hid, hn⟩
  · exact {
      rep := fun v u hr => hr.mono (fun _ h => .inl h) (fun _ _ => rfl) (by simp) (fun _ _ => rfl)
      os := rfl, tape := rfl, output := rfl, size := Nat.le_refl _, blk := fun _ _ _ => rfl, loc := fun _ _ => rfl, len := by simp
      own := fun i hi => .inl ⟨i, (liv hi).1, rfl⟩
      adm := fun b ha => by
        rcases ha with ha | ⟨hn, rfl⟩
        · exact .inl ha
        · exact .inr (.inl ⟨id, ⟨_, hid, hn⟩, rfl⟩) }

/-- A draw. -/
theorem HR.same {w A ρ H} (h : HR w A ρ H) {w' : World} (hw : WStep w w' (fun _ => False)) : HR w' A ρ H ∧ Ext w A ρ H w' A ρ H :=
  h.next hw (fun _ hb => hb.elim) (Nat.le_refl _) (fun _ _ => rfl) (fun _ _ hi => .inl ⟨hi, fun _ h => h⟩) h.sep (fun i hi => .inl ⟨i, hi, rfl⟩)

end Go.Sim

namespace Go.Sim

/-! ## 6. Operations -/
section
variable (P : Program)

def tInfo (t : TypeId) : Option TypeInfo := P.info? t
def tSize (t : TypeId) : Nat := ((P.info? t).map (·.size)).getD 0
def isAggD : TypeDesc → Bool
  | .struct _ | .array _ _ => true
  | _ => false
end

theorem run_isAgg {P : Program} {t d} (h : P.underlying t = some d) (w : World) : (isAgg t).run P w = .ok (isAggD d) w := by
  unfold isAgg
  simp only [Sem.run_bind, run_underlying h, Result.andThen]
  cases d <;> rfl
theorem run_sizeOf {P : Program} {t i} (h : P.info? t = some i) (w : World) : (sizeOf t).run P w = .ok i.size w := by
  simp [sizeOf, typeInfo, h]

/-- What a step that is carried out comes to. -/
def Ok1 (P : Program) (w : World) (A : Nat → Prop) (ρ : Nat → Loc) (H : Heap) (s : Sem Value) (K : V → Heap → Prop) : Prop :=
  ∃ u w' v H' A' ρ', s.run P w = .ok u w' ∧ K v H' ∧ HR w' A' ρ' H' ∧ Rep w' A' ρ' H'.length v u ∧ Ext w A ρ H w' A' ρ' H'

theorem Ok1.still {P w A ρ H s K} (h : HR w A ρ H) {u v} (hr : s.run P w = .ok u w) (hv : Rep w A ρ H.length v u) (hk : K v H) : Ok1 P w A ρ H s K :=
  ⟨u, w, v, H, A, ρ, hr, hk, h, hv, Ext.refl _ _ _ _⟩

theorem Rep.one {w A ρ n v u} (h : Rep w A ρ n v u) (hv : v.one = true) : u.oneCell' = true := by
  cases h with
  | st h => cases h <;> first | rfl | (simp [V.one] at hv)
  | agg => simp [V.one] at hv
  | tup => simp [V.one] at hv
  | _ => rfl

def V.val : V → Bool
  | .tup _ => false
  | .undef => false
  | _ => true

theorem Rep.cells_size' {w A ρ n v u} (h : Rep w A ρ n v u) (hv : v.cellsOk = true) : u.cells.size = v.cells.length := by
  refine h.cells_size (fun e => ?_) (fun cs e => ?_)
  · subst e; simp [V.cellsOk, V.cells, V.one] at hv
  · subst e; simp [V.cellsOk, V.cells, V.one] at hv
theorem Rep.cells' {w A ρ n v u} (h : Rep w A ρ n v u) (hv : v.cellsOk = true) (j : Nat) (c : V) (x : Value) (hc : v.cells[j]? = some c) (hx : u.cells[j]? = some x) : Rep w A ρ n c x :=
  h.cells (fun e => by subst e; simp [V.cellsOk, V.cells, V.one] at hv) j c x hc hx
theorem Rep.cells_one {w A ρ n v u} (h : Rep w A ρ n v u) (hv : v.cellsOk = true) : ∀ x ∈ u.cells.toList, x.oneCell' = true := by
  intro x hx
  obtain ⟨j, hj⟩ := List.getElem?_of_mem hx
  have hjl := (List.getElem?_eq_some_iff.1 hj).1
  have hl := h.cells_size' hv
  have hc : v.cells[j]? = some (v.cells[j]'(by simpa [← hl] using hjl)) := List.getElem?_eq_getElem _
  refine (h.cells' hv j _ x hc (by simpa using hj)).one ?_
  exact List.all_eq_true.1 hv _ (List.getElem_mem _)

/-! ### load -/
def rowGet (ag : Bool) (sz : Nat) (row : V) (j : Nat) : Option V :=
  match ag with
  | true => match row with
    | .agg cs => if j + sz ≤ cs.length then some (.agg ((cs.drop j).take sz)) else none
    | _ => none
  | false => row.cells[j]?

def pLoad (ag : Bool) (sz : Nat) (p : V) (H : Heap) (K : V → Prop) : Prop :=
  match p with
  | .loc _ row j => match rowGet ag sz row j with
    | some v => K v
    | none => False
  | .ptr id i j => match H[id]? with
    | some (.sl _ _ _ rows) => match rows[i]? with
      | some row => match rowGet ag sz row j with
        | some v => K v
        | none => False
      | none => False
    | some (.fz _ _ rows) => match rows[i]? with
      | some row => match rowGet ag sz row j with
        | some v => K v
        | none => False
      | none => False
    | some (.box _ row) => match i with
      | 0 => match rowGet ag sz row j with
        | some v => K v
        | none => False
      | _ => False
    | _ => False
  | _ => False

theorem row_load {P : Program} {w : World} {R : V → Value → Prop} {b o : Nat} {row : V} {ag : Bool} {sz j : Nat} {v : V} {t : TypeId} {d : TypeDesc} {i : TypeInfo}
    (hc : ∀ (j : Nat) c, row.cells[j]? = some c → ∃ u, w.cell? ⟨b, o + j, none⟩ = some u ∧ R c u)
    (hagg : ∀ (cs : List V) (us : Array Value), us.size = cs.length → (∀ (i : Nat) c u, cs[i]? = some c → us[i]? = some u → R c u) → R (.agg cs) (.agg us))
    (hU : P.underlying t = some d) (hd : isAggD d = ag) (hi : P.info? t = some i) (hs : i.size = sz) (hv : rowGet ag sz row j = some v) :
    ∃ u, (loadVar t ⟨b, o + j, none⟩).run P w = .ok u w ∧ R v u := by
  subst hs
  unfold loadVar
  simp only [Sem.run_bind, run_isAgg hU, Result.andThen]
  cases ag with
  | false =>
    simp only [rowGet] at hv
    obtain ⟨u, h1, h2⟩ := hc j v hv
    refine ⟨u, ?_, h2⟩
    rw [hd]
    simp [h1]
  | true =>
    simp only [rowGet] at hv
    cases row with
    | agg cs =>
      simp only at hv
      split at hv
      · rename_i hle
        cases hv
        have hlen : ((cs.drop j).take i.size).length = i.size := by simp; omega
        have hu : ∀ k, k < i.size → ∃ u, w.cell? ((⟨b, o + j, none⟩ : Addr).add k) = some u ∧ ∀ c, ((cs.drop j).take i.size)[k]? = some c → R c u := by
          intro k hk
          have hc' : cs[j + k]? = some (cs[j + k]'(by omega)) := List.getElem?_eq_getElem _
          obtain ⟨u, h1, h2⟩ := hc (j + k) _ hc'
          refine ⟨u, ?_, fun c hcc => ?_⟩
          · rw [← h1]
            congr 1
            unfold Addr.add
            split <;> simp_all [Nat.add_assoc]
          · rw [List.getElem?_take_of_lt hk, List.getElem?_drop, hc'] at hcc
            cases hcc
            exact h2
        let f : Nat → Value := fun k => if h : k < i.size then (hu k h).choose else undef
        have hf : ∀ k, k < i.size → w.cell? ((⟨b, o + j, none⟩ : Addr).add k) = some (f k) := by
          intro k hk
          simp only [f, hk, dif_pos]
          exact (hu k hk).choose_spec.1
        refine ⟨.agg ((List.range i.size).map f).toArray, ?_, ?_⟩
        · rw [hd]
          simp only [if_true, Sem.run_bind, run_sizeOf hi, Result.andThen, run_loadCells w _ i.size f hf]
          rfl
        · refine hagg _ _ (by simp; omega) fun k c u hk hu' => ?_
          have hkl : k < i.size := by
            have := (List.getElem?_eq_some_iff.1 hk).1
            omega
          simp [hkl] at hu'
          subst hu'
          simp only [f, hkl, dif_pos]
          exact (hu k hkl).choose_spec.2 c hk
      · cases hv
    | _ => simp at hv

/-- A step that leaves the world as it is. -/
def Ok1s (P : Program) (w : World) (A : Nat → Prop) (ρ : Nat → Loc) (H : Heap) (s : Sem Value) (K : V → Heap → Prop) : Prop :=
  ∃ u v, s.run P w = .ok u w ∧ K v H ∧ Rep w A ρ H.length v u
theorem Ok1s.still {P w A ρ H s K} (_ : HR w A ρ H) {u v} (hr : s.run P w = .ok u w) (hv : Rep w A ρ H.length v u) (hk : K v H) : Ok1s P w A ρ H s K := ⟨u, v, hr, hk, hv⟩

theorem sound_load0 {P : Program} {w A ρ H} (h : HR w A ρ H) {t d i ag sz} (hU : P.underlying t = some d) (hd : isAggD d = ag) (hi : P.info? t = some i) (hs : i.size = sz)
    {p : V} {a : Value} (hp : Rep w A ρ H.length p a) {K : V → Heap → Prop} (hK : pLoad ag sz p H (fun v => K v H)) : Ok1s P w A ρ H (Instr.loadAt t a) K := by
  unfold pLoad at hK
  cases hp with
  | st hp =>
    cases hp with
    | loc hA hl hc hr =>
      simp only at hK
      split at hK
      · rename_i v hv
        obtain ⟨u, h1, h2⟩ := row_load (P := P) (R := RS w A) (fun j c hj => ⟨_, hc j c hj, hr j c hj⟩) (fun cs us => .agg) hU hd hi hs hv
        exact Ok1s.still h (by simpa [Instr.loadAt, Instr.sureAddr] using h1) (.st h2) hK
      · exact hK.elim
    | _ => exact hK.elim
  | @ptr id i' j h1 h2 =>
    simp only at hK
    have slrows : ∀ {R : V → Value → Prop} {rows : List V} {s : Nat}, (ρ id).s = s → RowsAt R w (ρ id).b (ρ id).st s rows → (∀ v u, R v u → Rep w A ρ H.length v u) →
        (∀ (cs : List V) (us : Array Value), us.size = cs.length → (∀ (i : Nat) c u, cs[i]? = some c → us[i]? = some u → R c u) → R (.agg cs) (.agg us)) →
        ∀ {row v}, rows[i']? = some row → rowGet ag sz row j = some v → K v H → Ok1s P w A ρ H (Instr.loadAt t (.pointer (some ⟨(ρ id).b, (ρ id).st + i' * (ρ id).s + j, none⟩))) K := by
      intro R rows s hss hrows hR hagg row v hrow hv hk
      obtain ⟨u, h1, h2⟩ := row_load (P := P) (R := R) (b := (ρ id).b) (o := (ρ id).st + i' * (ρ id).s) (fun j c hj => by rw [hss]; exact hrows.2 i' row j c hrow hj) hagg hU hd hi hs hv
      exact Ok1s.still h (by simpa [Instr.loadAt, Instr.sureAddr] using h1) (hR _ _ h2) hk
    split at hK
    · rename_i nn e s rows hH
      split at hK
      · rename_i row hrow
        split at hK
        · rename_i v hv
          obtain ⟨g1, g2, g3, g4, g5⟩ := h.rep id _ hH
          have hnn : nn = true := by
            cases nn with
            | true => rfl
            | false => rw [g4 rfl] at hrow; simp at hrow
          exact slrows g2 (g5 hnn).2.2 (fun v u => .st) (fun cs us => .agg) hrow hv hK
        · exact hK.elim
      · exact hK.elim
    · rename_i nn s rows hH
      split at hK
      · rename_i row hrow
        split at hK
        · rename_i v hv
          obtain ⟨g1, g2, g3, g4⟩ := h.rep id _ hH
          have hnn : nn = true := by
            cases nn with
            | true => rfl
            | false => rw [g3 rfl] at hrow; simp at hrow
          exact slrows g2 (g4 hnn).2 (fun v u => .st) (fun cs us => .agg) hrow hv hK
        · exact hK.elim
      · exact hK.elim
    · rename_i e row hH
      split at hK
      · split at hK
        · rename_i v hv
          obtain ⟨g1, g2, g3, g4, g5, g6⟩ := h.rep id _ hH
          exact slrows (R := Rep w A ρ H.length) (rows := [row]) (s := (ρ id).s) rfl (by rw [g2]; exact g6) (fun v u h => h) (fun cs us => .agg) (row := row) rfl hv hK
        · exact hK.elim
      · exact hK.elim
    · exact hK.elim
  | _ => exact hK.elim

theorem sound_load {P : Program} {w A ρ H} (h : HR w A ρ H) {t d i ag sz} (hU : P.underlying t = some d) (hd : isAggD d = ag) (hi : P.info? t = some i) (hs : i.size = sz)
    {p : V} {a : Value} (hp : Rep w A ρ H.length p a) {K : V → Heap → Prop} (hK : pLoad ag sz p H (fun v => K v H)) : Ok1 P w A ρ H (Instr.loadAt t a) K := by
  obtain ⟨u, v, h1, h2, h3⟩ := sound_load0 (P := P) h hU hd hi hs hp hK
  exact Ok1.still h h1 h3 h2

end Go.Sim

namespace Go.Sim

theorem addr_add (b o n : Nat) : (⟨b, o, none⟩ : Addr).add n = ⟨b, o + n, none⟩ := by unfold Addr.add; split <;> simp_all

theorem alloc_heap (w : World) (o : Obj) : (w.alloc o).heap = w.heap.push o := rfl
theorem drew_heap (w : World) : w.drew.heap = w.heap := rfl
theorem push_old {l : Array Obj} {o : Obj} {b : Nat} (hb : b < l.size) : (l.push o)[b]? = l[b]? := by
  rw [Array.getElem?_push, if_neg (by omega)]
theorem wstep_alloc (w : World) (o : Obj) : WStep w (w.alloc o) (fun _ => False) :=
  ⟨rfl, rfl, rfl, by rw [alloc_heap, Array.size_push]; omega, fun b hb _ => by rw [alloc_heap, push_old hb]⟩
theorem wstep_drew_alloc (w : World) (o : Obj) : WStep w (w.drew.alloc o) (fun _ => False) :=
  ⟨rfl, rfl, rfl, by rw [alloc_heap, Array.size_push, drew_heap]; omega, fun b hb _ => by rw [alloc_heap, drew_heap, push_old hb]⟩
theorem alloc_new (w : World) (o : Obj) : (w.alloc o).heap[w.heap.size]? = some o := by rw [alloc_heap, Array.getElem?_push, if_pos rfl]
theorem alloc_cell (w : World) (cs : Array Value) (e : TypeId) (j : Nat) : (w.alloc (.cells cs e)).cell? ⟨w.heap.size, j, none⟩ = cs[j]? := by
  unfold World.cell?
  simp only [alloc_new]
  rfl
theorem idx_one {α : Type} {x y : α} {i : Nat} (h : [x][i]? = some y) : i = 0 ∧ y = x := by
  cases i with
  | zero => simp at h; exact ⟨rfl, h.symm⟩
  | succ i => simp at h

/-! ### alloc, box -/
def pBox (e : TypeId) (v : V) (H : Heap) (K : V → Heap → Prop) : Prop := v.cellsOk = true ∧ K (.ptr H.length 0 0) (H ++ [.box e v])

theorem sound_box {P : Program} {w A ρ H} (h : HR w A ρ H) {e : TypeId} {v : V} {u : Value} (hv : Rep w A ρ H.length v u) {K : V → Heap → Prop} (hK : pBox e v H K) :
    Ok1 P w A ρ H (Instr.box e u) K := by
  obtain ⟨h1, hK⟩ := hK
  have hs := wstep_alloc w (.cells u.cells e)
  have hsz := hv.cells_size' h1
  let L : Loc := ⟨true, w.heap.size, 0, v.cells.length, v.cells.length⟩
  have hv' : ∀ c x, Rep w A ρ H.length c x → Rep (w.alloc (.cells u.cells e)) A (ext ρ H.length L) (H.length + 1) c x := fun c x hx =>
    hx.mono (fun _ h => h) (fun b hb => hs.blk b (h.lt b hb) id) (by omega) (fun i hi => ext_old hi)
  have hb : BlkRep (w.alloc (.cells u.cells e)) A (ext ρ H.length L) (H.length + 1) L (Blk.box e v) := by
    refine ⟨rfl, rfl, rfl, rfl, ⟨u.cells, alloc_new _ _, hsz⟩, fun x hx => by simp at hx; rw [hx]; exact ⟨rfl, h1⟩, fun i x j c hx hc => ?_⟩
    obtain ⟨rfl, rfl⟩ := idx_one hx
    have hj := (List.getElem?_eq_some_iff.1 hc).1
    have hu : u.cells[j]? = some (u.cells[j]'(by omega)) := Array.getElem?_eq_getElem _
    refine ⟨_, ?_, hv' _ _ (hv.cells' h1 j c _ hc hu)⟩
    show (w.alloc (.cells u.cells e)).cell? ⟨w.heap.size, 0 + 0 * _ + j, none⟩ = _
    rw [show ∀ q, 0 + 0 * q + j = j by intro q; omega, alloc_cell]
    exact hu
  obtain ⟨g1, g2⟩ := h.fresh hs (L := L) (fun _ => Nat.le_refl _) hb
  refine ⟨.pointer (some ⟨w.heap.size, 0, none⟩), _, _, _, _, _, ?_, hK, g1, ?_, g2⟩
  · simp [Instr.box, newVar, newRow]
  · have := @Rep.ptr (w.alloc (.cells u.cells e)) A (ext ρ H.length L) (H ++ [Blk.box e v]).length H.length 0 0 (by simp) (by rw [ext_new])
    rw [ext_new] at this
    simpa [L] using this

/-! ### addresses -/
theorem HR.width {w A ρ H} (h : HR w A ρ H) {id s : Nat} (hw : Heap.width H id = some s) : (ρ id).s = s := by
  unfold Heap.width at hw
  split at hw
  · rename_i hk
    cases hw
    exact (h.rep id _ hk).2.1
  · rename_i hk
    cases hw
    exact (h.rep id _ hk).2.1
  · cases hw

def pIndexAddr (s : Nat) (x i : V) (H : Heap) (K : V → Prop) : Prop :=
  match i with
  | .int _ n => match x with
    | .sl _ s' xs => s' = s ∧ 0 ≤ n ∧ n < xs.length ∧ (match xs[n.toNat]? with | some row => K (.loc s row 0) | none => False)
    | .ref id off len => Heap.width H id = some s ∧ 0 ≤ n ∧ n < len ∧ K (.ptr id (off + n.toNat) 0)
    | _ => False
  | _ => False

theorem sound_indexAddr {P : Program} {w A ρ H} (h : HR w A ρ H) {t e i s} (hU : P.underlying t = some (.slice e)) (hi : P.info? e = some i) (hs : i.size = s)
    {x n : V} {ux un : Value} (hx : Rep w A ρ H.length x ux) (hn : Rep w A ρ H.length n un)
    {K : V → Heap → Prop} (hK : pIndexAddr s x n H (fun v => K v H)) : Ok1 P w A ρ H (Instr.indexAt t ux un) K := by
  subst hs
  unfold pIndexAddr at hK
  cases n with
  | int k n =>
    have := hn.int_inv; subst this
    simp only at hK
    have run : ∀ {a : Addr} {len cap : Nat}, 0 ≤ n → n < len → (Instr.indexAt t (.slice (some a) len cap) (.int k n)).run P w = .ok (.pointer (some (a.add (n.toNat * i.size)))) w := by
      intro a len cap h0 h1
      simp [Instr.indexAt, run_underlying hU, asIntOf, h0, h1, sizeOf, typeInfo, hi]
    cases hx with
    | st hx =>
      cases hx with
      | slnil => simp at hK
      | @sl s' xs b o cap u h1 h2 h3 h4 h5 =>
        obtain ⟨rfl, h0, hl, hK⟩ := hK
        split at hK
        · rename_i row hrow
          refine Ok1.still h (run h0 hl) ?_ hK
          rw [addr_add]
          have hmem : row ∈ xs := List.mem_of_getElem? hrow
          exact .st (@RS.loc w A i.size row 0 b (o + n.toNat * i.size) (fun j => u n.toNat j) (h1 (by rintro rfl; simp at hmem)) (h3 _ hmem)
            (fun j c hj => h4 _ _ _ _ hrow hj) (fun j c hj => h5 _ _ _ _ hrow hj))
        · exact hK.elim
      | _ => exact hK.elim
    | @ref1 id off len cap o g1 g2 g3 g4 g5 =>
      obtain ⟨hw, h0, hl, hK⟩ := hK
      have hss := h.width hw
      refine Ok1.still h (run h0 hl) ?_ hK
      rw [addr_add, g5 (by omega)]
      have := @Rep.ptr w A ρ H.length id (off + n.toNat) 0 g1 g2
      rw [hss] at this ⊢
      rw [show (ρ id).st + off * i.size + n.toNat * i.size = (ρ id).st + (off + n.toNat) * i.size + 0 by rw [Nat.add_mul]; omega]
      exact this
    | ref0 => obtain ⟨_, h0, hl, _⟩ := hK; simp at hl; omega
    | _ => exact hK.elim
  | _ => exact hK.elim

def pFieldAddr (off : Nat) (p : V) (K : V → Prop) : Prop :=
  match p with
  | .loc s row j => K (.loc s row (j + off))
  | .ptr id i j => K (.ptr id i (j + off))
  | _ => False

theorem sound_fieldAddr {P : Program} {w A ρ H} (h : HR w A ρ H) {t fs f fi n} (hU : P.underlying t = some (.struct fs)) (hf : fs[n]? = some f) (hi : P.info? f.type = some fi) (hz : fi.size ≠ 0)
    {p : V} {a : Value} (hp : Rep w A ρ H.length p a) {K : V → Heap → Prop} (hK : pFieldAddr f.offset p (fun v => K v H)) : Ok1 P w A ρ H (Instr.fieldAt t a n) K := by
  have run : ∀ (b o : Nat), (Instr.fieldAt t (.pointer (some ⟨b, o, none⟩)) n).run P w = .ok (.pointer (some ⟨b, o + f.offset, none⟩)) w := by
    intro b o
    simp [Instr.fieldAt, run_underlying hU, hf, Instr.sureAddr, fieldPlace, sizeOf, typeInfo, hi, hz, addr_add]
  unfold pFieldAddr at hK
  cases hp with
  | st hp =>
    cases hp with
    | @loc s row j b o u h1 h2 h3 h4 =>
      refine Ok1.still h (run _ _) ?_ hK
      rw [Nat.add_assoc]
      exact .st (.loc h1 h2 h3 h4)
    | _ => exact hK.elim
  | @ptr id i j h1 h2 =>
    refine Ok1.still h (run _ _) ?_ hK
    rw [Nat.add_assoc]
    exact .ptr h1 h2
  | _ => exact hK.elim

/-! ### len, slicing, strings -/
def pLen (x : V) (K : V → Prop) : Prop :=
  match x with
  | .sl _ _ xs => K (.int .i64 xs.length)
  | .ref _ _ len => K (.int .i64 len)
  | .str s => K (.int .i64 s.size)
  | _ => False

theorem sound_len {P : Program} {w A ρ H} (h : HR w A ρ H) {t ty d} (hU : P.underlying t = some d) (hd : (∃ e, d = .slice e) ∨ d = .string)
    {x : V} {u : Value} (hx : Rep w A ρ H.length x u) (hk : ((∃ e, d = .slice e) ∧ ∀ s, x ≠ .str s) ∨ (d = .string ∧ ∃ s, x = .str s)) {K : V → Heap → Prop} (hK : pLen x (fun v => K v H)) :
    Ok1 P w A ρ H (Builtin.len_ #[t] ty #[u]) K := by
  unfold pLen at hK
  cases hx with
  | st hx =>
    cases hx with
    | str =>
      rcases hk with ⟨_, hk⟩ | ⟨rfl, _⟩
      · exact absurd rfl (hk _)
      · exact Ok1.still h (by simp [Builtin.len_, run_underlying hU, goInt]) .int hK
    | slnil =>
      rcases hk with ⟨⟨e, rfl⟩, _⟩ | ⟨_, s, hs⟩
      · exact Ok1.still h (by simp [Builtin.len_, run_underlying hU, goInt]) .int hK
      · cases hs
    | sl =>
      rcases hk with ⟨⟨e, rfl⟩, _⟩ | ⟨_, s, hs⟩
      · exact Ok1.still h (by simp [Builtin.len_, run_underlying hU, goInt]) .int hK
      · cases hs
    | _ => exact hK.elim
  | ref1 =>
    rcases hk with ⟨⟨e, rfl⟩, _⟩ | ⟨_, s, hs⟩
    · exact Ok1.still h (by simp [Builtin.len_, run_underlying hU, goInt]) .int hK
    · cases hs
  | ref0 =>
    rcases hk with ⟨⟨e, rfl⟩, _⟩ | ⟨_, s, hs⟩
    · exact Ok1.still h (by simp [Builtin.len_, run_underlying hU, goInt]) .int hK
    · cases hs
  | _ => exact hK.elim

/-! ### slicing -/
def bnd (d : Int) : Option V → Option Int
  | none => some d
  | some (.int _ n) => some n
  | _ => none

def pSlice (s : Nat) (x : V) (lo hi : Option V) (H : Heap) (K : V → Prop) : Prop :=
  match x with
  | .str s => match bnd 0 lo, bnd s.size hi with
    | some l, some h => 0 ≤ l ∧ l ≤ h ∧ h ≤ s.size ∧ K (.str (s.extract l.toNat h.toNat))
    | _, _ => False
  | .sl nn s' xs => match bnd 0 lo, bnd xs.length hi with
    | some l, some h => s' = s ∧ 0 ≤ l ∧ l ≤ h ∧ h ≤ xs.length ∧ K (.sl nn s' ((xs.take h.toNat).drop l.toNat))
    | _, _ => False
  | .ref id off len => match bnd 0 lo, bnd len hi with
    | some l, some h => Heap.width H id = some s ∧ 0 ≤ l ∧ l ≤ h ∧ h ≤ len ∧ K (.ref id (off + l.toNat) (h.toNat - l.toNat))
    | _, _ => False
  | _ => False

theorem run_bound {w A ρ n} {lo : Option V} {ulo : Option Value} (hlo : ∀ v, lo = some v → ∃ u, ulo = some u ∧ Rep w A ρ n v u) (hno : lo = none → ulo = none) {d l : Int} (h : bnd d lo = some l) :
    (ulo = none ∧ l = d) ∨ ∃ k, ulo = some (.int k l) := by
  cases lo with
  | none => cases h; exact .inl ⟨hno rfl, rfl⟩
  | some v =>
    cases v with
    | int k x =>
      cases h
      obtain ⟨u, h1, h2⟩ := hlo _ rfl
      exact .inr ⟨k, by rw [h1, h2.int_inv]⟩
    | _ => cases h

theorem run_sliceBounds {P : Program} {w : World} {isS : Bool} {len cap : Nat} {ulo uhi : Option Value} {l h : Int} (h0 : 0 ≤ l) (h1 : l ≤ h) (h2 : h ≤ len) (h3 : len ≤ cap)
    (hlo : (ulo = none ∧ l = 0) ∨ ∃ k, ulo = some (.int k l)) (hhi : (uhi = none ∧ h = len) ∨ ∃ k, uhi = some (.int k h)) :
    (Instr.sliceBounds isS len cap ulo uhi none).run P w = .ok (l.toNat, h.toNat, cap) w := by
  have eh : (h.toNat : Int) = h := Int.toNat_of_nonneg (by omega)
  rcases hlo with ⟨rfl, rfl⟩ | ⟨k, rfl⟩ <;> rcases hhi with ⟨rfl, rfl⟩ | ⟨k', rfl⟩
  · simp [Instr.sliceBounds]
  · simp [Instr.sliceBounds, run_sliceBound, h1, show h ≤ (cap : Int) by omega]
  · simp [Instr.sliceBounds, run_sliceBound, h0, show l ≤ (len : Int) by omega]
  · simp [Instr.sliceBounds, run_sliceBound, h0, show h ≤ (cap : Int) by omega, show 0 ≤ h by omega, eh, h1]

theorem sound_slice {P : Program} {w A ρ H} (h : HR w A ρ H) {t e i} (hU : P.underlying t = some (.slice e)) (hi : P.info? e = some i)
    {x : V} {ux : Value} (hx : Rep w A ρ H.length x ux) {lo hi' : Option V} {ulo uhi : Option Value}
    (hlo : ∀ v, lo = some v → ∃ u, ulo = some u ∧ Rep w A ρ H.length v u) (hlo0 : lo = none → ulo = none)
    (hhi : ∀ v, hi' = some v → ∃ u, uhi = some u ∧ Rep w A ρ H.length v u) (hhi0 : hi' = none → uhi = none)
    (hns : ∀ s, x ≠ .str s) {s : Nat} (hsz : i.size = s)
    {K : V → Heap → Prop} (hK : pSlice s x lo hi' H (fun v => K v H)) : Ok1 P w A ρ H (Instr.sliceAt t ux ulo uhi none) K := by
  have run : ∀ {a : Option Addr} {len cap : Nat} {l h : Int}, 0 ≤ l → l ≤ h → h ≤ len → len ≤ cap → ((ulo = none ∧ l = 0) ∨ ∃ k, ulo = some (.int k l)) → ((uhi = none ∧ h = len) ∨ ∃ k, uhi = some (.int k h)) →
      (Instr.sliceAt t (.slice a len cap) ulo uhi none).run P w = .ok (.slice (if cap = l.toNat then a else a.map (·.add (l.toNat * i.size))) (h.toNat - l.toNat) (cap - l.toNat)) w := by
    intro a len cap l h h0 h1 h2 h3 hl hh
    simp [Instr.sliceAt, Instr.slice, run_underlying hU, run_sliceBounds (P := P) (w := w) (isS := true) h0 h1 h2 h3 hl hh, sizeOf, typeInfo, hi]
  unfold pSlice at hK
  cases hx with
  | st hx =>
    cases hx with
    | str => exact absurd rfl (hns _)
    | slnil s =>
      simp only at hK
      split at hK
      · rename_i l h' e1 e2
        obtain ⟨_, h0, h1, h2, hK⟩ := hK
        have r := run (a := none) (cap := 0) h0 h1 h2 (by simp) (run_bound hlo hlo0 e1) (run_bound hhi hhi0 e2)
        simp only [List.length_nil] at r
        have : l.toNat = 0 := by simp at h2; omega
        have : h'.toNat = 0 := by simp at h2; omega
        refine Ok1.still h (u := .slice none 0 0) ?_ ?_ hK
        · rw [r]; simp [*]
        · simp only [List.take_nil, List.drop_nil]; exact .st (.slnil s)
      · exact hK.elim
    | @sl s' xs b o cap u g1 g2 g3 g4 g5 =>
      simp only at hK
      split at hK
      · rename_i l h' e1 e2
        obtain ⟨hs, h0, h1, h2, hK⟩ := hK
        have r := run (a := some ⟨b, o, none⟩) h0 h1 h2 g2 (run_bound hlo hlo0 e1) (run_bound hhi hhi0 e2)
        rw [← hsz] at hs
        have hlen : ((xs.take h'.toNat).drop l.toNat).length = h'.toNat - l.toNat := by simp; omega
        have hmem : ∀ {j x}, ((xs.take h'.toNat).drop l.toNat)[j]? = some x → xs[l.toNat + j]? = some x ∧ j < h'.toNat - l.toNat := by
          intro j x hj
          have hjl := (List.getElem?_eq_some_iff.1 hj).1
          rw [List.getElem?_drop, List.getElem?_take] at hj
          split at hj
          · exact ⟨hj, by omega⟩
          · cases hj
        refine Ok1.still h r ?_ hK
        have hb : (if cap = l.toNat then some (⟨b, o, none⟩ : Addr) else (some ⟨b, o, none⟩ : Option Addr).map (·.add (l.toNat * i.size))) = some ⟨b, if cap = l.toNat then o else o + l.toNat * i.size, none⟩ := by
          split <;> simp [addr_add]
        rw [hb]
        rw [← hlen]
        refine .st (@RS.sl w A s' _ b _ _ (fun q j => u (l.toNat + q) j) (fun hne => g1 (by rintro rfl; simp at hne)) (by rw [hlen]; omega) (fun x hx => ?_) ?_ ?_)
        · exact g3 x (List.mem_of_mem_take (List.mem_of_mem_drop hx))
        · intro q x j c hq hj
          obtain ⟨hq, hlt⟩ := hmem hq
          rw [← g4 _ _ _ _ hq hj, if_neg (by omega), hs]
          congr 2
          rw [Nat.add_mul]
          omega
        · intro q x j c hq hj
          exact g5 _ _ _ _ (hmem hq).1 hj
      · exact hK.elim
    | _ => exact hK.elim
  | @ref1 id off len cap o g1 g2 g3 g4 g5 =>
    simp only at hK
    split at hK
    · rename_i l h' e1 e2
      obtain ⟨hs, h0, h1, h2, hK⟩ := hK
      have r := run (a := some ⟨(ρ id).b, o, none⟩) h0 h1 h2 g3 (run_bound hlo hlo0 e1) (run_bound hhi hhi0 e2)
      replace hs := h.width hs
      rw [← hsz] at hs
      refine Ok1.still h r ?_ hK
      have hb : (if cap = l.toNat then some (⟨(ρ id).b, o, none⟩ : Addr) else (some ⟨(ρ id).b, o, none⟩ : Option Addr).map (·.add (l.toNat * i.size))) = some ⟨(ρ id).b, if cap = l.toNat then o else o + l.toNat * i.size, none⟩ := by
        split <;> simp [addr_add]
      rw [hb]
      have hlc : l.toNat ≤ cap := by omega
      refine .ref1 g1 g2 (by omega) ?_ ?_
      · rw [hs] at g4 ⊢
        split
        · rename_i hc
          rw [← hc]; simp; exact Nat.le_trans (Nat.le_add_right _ _) g4
        · have : cap * i.size = l.toNat * i.size + (cap - l.toNat) * i.size := by rw [← Nat.add_mul]; congr 1; omega
          omega
      · intro hc
        rw [if_neg (by omega), g5 (by omega), hs, Nat.add_mul]
        omega
    · exact hK.elim
  | ref0 g1 g2 =>
    simp only at hK
    split at hK
    · rename_i l h' e1 e2
      obtain ⟨_, h0, h1, h2, hK⟩ := hK
      have r := run (a := none) (cap := 0) h0 h1 h2 (by simp) (run_bound hlo hlo0 e1) (run_bound hhi hhi0 e2)
      have hl : l.toNat = 0 := by simp at h2; omega
      have hh : h'.toNat = 0 := by simp at h2; omega
      refine Ok1.still h (u := .slice none 0 0) ?_ ?_ hK
      · rw [r]; simp [hl, hh]
      · rw [hl, hh]; exact .ref0 g1 g2
    · exact hK.elim
  | _ => exact hK.elim

theorem sound_sliceStr {P : Program} {w A ρ H} (h : HR w A ρ H) {t} (hU : P.underlying t = some .string)
    {s : ByteArray} {ux : Value} (hx : Rep w A ρ H.length (.str s) ux) {lo hi' : Option V} {ulo uhi : Option Value}
    (hlo : ∀ v, lo = some v → ∃ u, ulo = some u ∧ Rep w A ρ H.length v u) (hlo0 : lo = none → ulo = none)
    (hhi : ∀ v, hi' = some v → ∃ u, uhi = some u ∧ Rep w A ρ H.length v u) (hhi0 : hi' = none → uhi = none)
    {K : V → Heap → Prop} {z : Nat} (hK : pSlice z (.str s) lo hi' H (fun v => K v H)) : Ok1 P w A ρ H (Instr.sliceAt t ux ulo uhi none) K := by
  have := hx.str_inv; subst this
  simp only [pSlice] at hK
  split at hK
  · rename_i l h' e1 e2
    obtain ⟨h0, h1, h2, hK⟩ := hK
    refine Ok1.still h (u := .string (s.extract l.toNat h'.toNat)) ?_ .str hK
    simp [Instr.sliceAt, Instr.slice, run_underlying hU, run_sliceBounds (P := P) (w := w) (isS := false) h0 h1 h2 (Nat.le_refl _) (run_bound hlo hlo0 e1) (run_bound hhi hhi0 e2)]
  · exact hK.elim

end Go.Sim

namespace Go.Sim

/-! ### store -/
def splice (cs : List V) (j : Nat) (ds : List V) : List V := cs.take j ++ ds ++ cs.drop (j + ds.length)

def rowSet (row : V) (j : Nat) (v : V) : Option V :=
  match row with
  | .agg cs => if j + v.cells.length ≤ cs.length then some (.agg (splice cs j v.cells)) else none
  | _ => if v.one = true ∧ j = 0 then some v else none

theorem V.one_cells {v : V} (h : v.one = true) : v.cells = [v] := by cases v <;> first | rfl | (simp [V.one] at h)

theorem rowSet_cells {row v row' : V} {j : Nat} (h : rowSet row j v = some row') : j + v.cells.length ≤ row.cells.length ∧ row'.cells.length = row.cells.length ∧
    (∀ k, k < v.cells.length → row'.cells[j + k]? = v.cells[k]?) ∧ ∀ k, (k < j ∨ j + v.cells.length ≤ k) → row'.cells[k]? = row.cells[k]? := by
  cases row with
  | agg cs =>
    simp only [rowSet] at h
    split at h
    · rename_i hle
      cases h
      simp only [V.cells] at hle ⊢
      refine ⟨hle, ?_, fun k hk => ?_, fun k hk => ?_⟩
      · simp [splice]; omega
      · unfold splice
        rw [List.append_assoc, List.getElem?_append_right (by simp; omega), List.getElem?_append_left (by simp; omega)]
        congr 1
        simp
        omega
      · unfold splice
        rcases hk with hk | hk
        · rw [List.append_assoc, List.getElem?_append_left (by simp; omega), List.getElem?_take_of_lt hk]
        · rw [List.getElem?_append_right (by simp; omega), List.getElem?_drop]
          congr 1
          simp
          omega
    · cases h
  | _ =>
    simp only [rowSet] at h
    split at h
    · rename_i hv
      obtain ⟨hv, rfl⟩ := hv
      cases h
      rw [V.one_cells hv]
      refine ⟨by simp [V.cells], by simp [V.cells], fun k hk => by simp, fun k hk => ?_⟩
      have : 1 ≤ k := by simp at hk; omega
      rw [List.getElem?_eq_none (by simpa using this), List.getElem?_eq_none (by simpa [V.cells] using this)]
    · cases h

theorem rowSet_ok {row v row' : V} {j : Nat} (h : rowSet row j v = some row') (h1 : row.cellsOk = true) (h2 : v.cellsOk = true) : row'.cellsOk = true := by
  obtain ⟨g1, g2, g3, g4⟩ := rowSet_cells h
  simp only [V.cellsOk, List.all_eq_true] at h1 h2 ⊢
  intro x hx
  obtain ⟨k, hk⟩ := List.getElem?_of_mem hx
  by_cases hj : j ≤ k ∧ k < j + v.cells.length
  · have := g3 (k - j) (by omega)
    rw [show j + (k - j) = k by omega, hk] at this
    exact h2 x (List.mem_of_getElem? this.symm)
  · rw [g4 k (by omega)] at hk
    exact h1 x (List.mem_of_getElem? hk)

theorem setCells_heap (b : Nat) : ∀ (vs : List Value) (o : Nat) (w : World) (b' : Nat), b' ≠ b → (w.setCells b o vs).heap[b']? = w.heap[b']?
  | [], _, _, _, _ => rfl
  | v :: r, o, w, b', h => by rw [World.setCells, setCells_heap b r _ _ _ h]; exact Go.RowKit.Below.heap_setCell _ _ _ _ h
theorem setCell_size (w : World) (a : Addr) (v : Value) : (w.setCell a v).heap.size = w.heap.size := by
  unfold World.setCell
  exact Array.size_modify
theorem setCells_size (b : Nat) : ∀ (vs : List Value) (o : Nat) (w : World), (w.setCells b o vs).heap.size = w.heap.size
  | [], _, _ => rfl
  | v :: r, o, w => by rw [World.setCells, setCells_size b r, setCell_size]
theorem setCells_fields (b : Nat) : ∀ (vs : List Value) (o : Nat) (w : World), (w.setCells b o vs).os = w.os ∧ (w.setCells b o vs).tape = w.tape ∧ (w.setCells b o vs).output = w.output
  | [], _, _ => ⟨rfl, rfl, rfl⟩
  | v :: r, o, w => by rw [World.setCells]; exact setCells_fields b r (o + 1) (w.setCell ⟨b, o, none⟩ v)
theorem wstep_setCells (w : World) (b o : Nat) (vs : List Value) : WStep w (w.setCells b o vs) (fun x => x = b) :=
  ⟨(setCells_fields b vs o w).1, (setCells_fields b vs o w).2.1, (setCells_fields b vs o w).2.2, by rw [setCells_size]; omega, fun x _ hx => setCells_heap b vs o w x hx⟩

theorem shape_setCell {w : World} {L : Loc} {e : TypeId} (h : Shape w L e) (o : Nat) (v : Value) : Shape (w.setCell ⟨L.b, o, none⟩ v) L e := by
  obtain ⟨cs, h1, h2⟩ := h
  refine ⟨cs.setIfInBounds o v, ?_, by simpa using h2⟩
  show (w.heap.modify L.b _)[L.b]? = _
  rw [Array.getElem?_modify, if_pos rfl, h1]
  rfl
theorem shape_setCells {L : Loc} {e : TypeId} : ∀ (vs : List Value) (o : Nat) (w : World), Shape w L e → Shape (w.setCells L.b o vs) L e
  | [], _, _, h => h
  | v :: r, o, w, h => by rw [World.setCells]; exact shape_setCells r _ _ (shape_setCell h o v)

theorem Shape.frozen {w : World} {L : Loc} {e : TypeId} (h : Shape w L e) (o : Nat) : w.frozen? ⟨L.b, o, none⟩ = false := by
  obtain ⟨cs, h1, h2⟩ := h
  unfold World.frozen?
  simp only [h1]
  simp

theorem RowsAt.store {R R' : V → Value → Prop} {w : World} {b st s : Nat} {rows : List V} (h : RowsAt R w b st s rows) {i : Nat} {row row' : V} {j : Nat} {v : V} {u : Value}
    (hrow : rows[i]? = some row) (hset : rowSet row j v = some row') (hvok : v.cellsOk = true) (hsize : u.cells.size = v.cells.length)
    (hcells : ∀ (k : Nat) c x, v.cells[k]? = some c → u.cells[k]? = some x → R' c x) (hR : ∀ c x, R c x → R' c x) :
    (∀ k, k < u.cells.toList.length → (w.cell? ⟨b, st + i * s + j + k, none⟩).isSome = true) ∧ RowsAt R' (w.setCells b (st + i * s + j) u.cells.toList) b st s (rows.set i row') := by
  obtain ⟨g1, g2, g3, g4⟩ := rowSet_cells hset
  have hrs : row.cells.length = s := (h.1 row (List.mem_of_getElem? hrow)).1
  have hu : u.cells.toList.length = v.cells.length := by simpa using hsize
  have hin : ∀ k, k < u.cells.toList.length → (w.cell? ⟨b, st + i * s + j + k, none⟩).isSome = true := by
    intro k hk
    have hc : row.cells[j + k]? = some (row.cells[j + k]'(by omega)) := List.getElem?_eq_getElem _
    obtain ⟨x, hx, _⟩ := h.2 i row (j + k) _ hrow hc
    rw [Nat.add_assoc (st + i * s), hx]; rfl
  refine ⟨hin, fun x hx => ?_, fun q x k c hq hc => ?_⟩
  · rcases List.mem_or_eq_of_mem_set hx with hx | rfl
    · exact h.1 x hx
    · exact ⟨by rw [g2]; exact hrs, rowSet_ok hset (h.1 row (List.mem_of_getElem? hrow)).2 hvok⟩
  · have hkl := (List.getElem?_eq_some_iff.1 hc).1
    by_cases e : i = q
    · subst e
      rw [List.getElem?_set_self (List.getElem?_eq_some_iff.1 hrow).1] at hq
      cases hq
      by_cases hk : j ≤ k ∧ k < j + v.cells.length
      · have hk' : v.cells[k - j]? = some c := by rw [← g3 (k - j) (by omega), show j + (k - j) = k by omega]; exact hc
        have hx' : u.cells[k - j]? = some (u.cells[k - j]'(by omega)) := Array.getElem?_eq_getElem _
        refine ⟨_, ?_, hcells _ _ _ hk' hx'⟩
        have := World.cell?_setCells_in b u.cells.toList (st + i * s + j) w hin (k - j) (by omega)
        rw [show st + i * s + k = st + i * s + j + (k - j) by omega, this]
        simp
      · rw [g4 k (by omega)] at hc
        obtain ⟨x, h1, h2⟩ := h.2 i row k c hrow hc
        refine ⟨x, ?_, hR _ _ h2⟩
        rw [World.cell?_setCells_out]
        · exact h1
        · intro _ _
          simp only [hu]
          omega
    · rw [List.getElem?_set_ne e] at hq
      obtain ⟨y, h1, h2⟩ := h.2 q x k c hq hc
      refine ⟨y, ?_, hR _ _ h2⟩
      have hks : k < s := by
        have := (h.1 x (List.mem_of_getElem? hq)).1
        omega
      rw [World.cell?_setCells_out]
      · exact h1
      · intro _ _
        simp only [hu]
        rcases Nat.lt_or_ge q i with hlt | hge
        · have : (q + 1) * s ≤ i * s := Nat.mul_le_mul_right _ hlt
          rw [Nat.add_mul] at this
          omega
        · have : (i + 1) * s ≤ q * s := Nat.mul_le_mul_right _ (by omega)
          rw [Nat.add_mul] at this
          omega

def pStore (sz : Nat) (p v : V) (H : Heap) (K : Heap → Prop) : Prop :=
  v.cellsOk = true ∧ v.cells.length = sz ∧
  match p with
  | .ptr id i j => match H[id]? with
    | some (.sl nn e s rows) => v.static = true ∧ match rows[i]? with
      | some row => match rowSet row j v with
        | some row' => K (H.set id (.sl nn e s (rows.set i row')))
        | none => False
      | none => False
    | some (.box e row) => match i with
      | 0 => match rowSet row j v with
        | some row' => K (H.set id (.box e row'))
        | none => False
      | _ => False
    | _ => False
  | _ => False

/-- A store: no value. -/
def Ok0 (P : Program) (w : World) (A : Nat → Prop) (ρ : Nat → Loc) (H : Heap) (s : Sem Unit) (K : Heap → Prop) : Prop :=
  ∃ w' H' A' ρ', s.run P w = .ok () w' ∧ K H' ∧ HR w' A' ρ' H' ∧ Ext w A ρ H w' A' ρ' H'

theorem sound_store {P : Program} {w A ρ H} (h : HR w A ρ H) {t i sz} (hi : P.info? t = some i) (hs : i.size = sz)
    {p v : V} {a u : Value} (hp : Rep w A ρ H.length p a) (hv : Rep w A ρ H.length v u) {K : Heap → Prop} (hK : pStore sz p v H K) : Ok0 P w A ρ H (Instr.storeAt t a u) K := by
  obtain ⟨hok, hsz, hK⟩ := hK
  have hsize := hv.cells_size' hok
  have hone := hv.cells_one hok
  cases hp with
  | st hp => cases hp <;> exact hK.elim
  | @ptr id q j h1 h2 =>
    have run : (∀ k, k < u.cells.toList.length → (w.cell? ⟨(ρ id).b, (ρ id).st + q * (ρ id).s + j + k, none⟩).isSome = true) → (∃ e, Shape w (ρ id) e) →
        (Instr.storeAt t (.pointer (some ⟨(ρ id).b, (ρ id).st + q * (ρ id).s + j, none⟩)) u).run P w = .ok () (w.setCells (ρ id).b ((ρ id).st + q * (ρ id).s + j) u.cells.toList) := by
      intro hc ⟨e, he⟩
      have := run_storeCells_cells (P := P) (ρ id).b ((ρ id).st + q * (ρ id).s + j) u.cells.toList 0 w hc (fun k _ => he.frozen _) hone
      simp [Instr.storeAt, Instr.sureAddr, storeVar, sizeOf, typeInfo, hi, hs, hsize, hsz, this]
    simp only at hK
    split at hK
    · rename_i nn e s rows hH
      obtain ⟨hst, hK⟩ := hK
      split at hK
      · rename_i row hrow
        split at hK
        · rename_i row' hset
          obtain ⟨g1, g2, g3, g4, g5⟩ := h.rep id _ hH
          have hnn : nn = true := by
            cases nn with
            | true => rfl
            | false => rw [g4 rfl] at hrow; simp at hrow
          subst hnn
          obtain ⟨g5, g6, g7⟩ := g5 rfl
          have hlive : LiveAt H id := ⟨_, hH, rfl⟩
          have hw := wstep_setCells w (ρ id).b ((ρ id).st + q * (ρ id).s + j) u.cells.toList
          have hA : ∀ b, A b → (w.setCells (ρ id).b ((ρ id).st + q * (ρ id).s + j) u.cells.toList).heap[b]? = w.heap[b]? := fun b hb => hw.blk b (h.lt b hb) (fun e => h.out id hlive (e ▸ hb))
          obtain ⟨r1, r2⟩ := g7.store (R' := RS (w.setCells (ρ id).b ((ρ id).st + q * (ρ id).s + j) u.cells.toList) A) hrow hset hok hsize
            (fun k c x hc hx => ((hv.cells' hok k c x hc hx).rs (by
              have hh := hv.rs hst
              have : ∀ c ∈ v.cells, c.static = true := by
                intro c hc
                cases v with
                | agg cs => exact V.statics_iff.1 hst c hc
                | _ => simp [V.cells] at hc; subst hc; exact hst
              exact this c (List.mem_of_getElem? hc))).mono (fun _ h => h) hA)
            (fun c x hr => hr.mono (fun _ h => h) hA)
          rw [← g2] at r1 r2
          obtain ⟨n1, n2⟩ := h.store hlive hw (k := .sl true e s (rows.set q row')) ⟨g1, g2, g3, (fun h => by cases h), fun _ => ⟨shape_setCells _ _ _ g5, by simpa using g6, by rw [← g2]; exact r2⟩⟩
          exact ⟨_, _, _, _, run r1 ⟨e, g5⟩, hK, n1, n2⟩
        · exact hK.elim
      · exact hK.elim
    · rename_i e row hH
      split at hK
      · split at hK
        · rename_i row' hset
          obtain ⟨g1, g2, g3, g4, g5, g6⟩ := h.rep id _ hH
          have hlive : LiveAt H id := ⟨_, hH, rfl⟩
          have hw := wstep_setCells w (ρ id).b ((ρ id).st + 0 * (ρ id).s + j) u.cells.toList
          have hA : ∀ b, A b → (w.setCells (ρ id).b ((ρ id).st + 0 * (ρ id).s + j) u.cells.toList).heap[b]? = w.heap[b]? := fun b hb => hw.blk b (h.lt b hb) (fun e => h.out id hlive (e ▸ hb))
          have g6' : RowsAt (Rep w A ρ H.length) w (ρ id).b (ρ id).st (ρ id).s [row] := by rw [g2]; exact g6
          obtain ⟨r1, r2⟩ := g6'.store (R' := Rep (w.setCells (ρ id).b ((ρ id).st + 0 * (ρ id).s + j) u.cells.toList) A ρ H.length) (i := 0) (row := row) rfl hset hok hsize
            (fun k c x hc hx => (hv.cells' hok k c x hc hx).mono (fun _ h => h) hA (Nat.le_refl _) (fun _ _ => rfl))
            (fun c x hr => hr.mono (fun _ h => h) hA (Nat.le_refl _) (fun _ _ => rfl))
          have hl := (rowSet_cells hset).2.1
          obtain ⟨n1, n2⟩ := h.store hlive hw (k := .box e row') ⟨g1, g2, by rw [hl]; exact g3, by rw [hl]; exact g4, shape_setCells _ _ _ g5, by rw [g2] at r2 ⊢; simpa using r2⟩
          exact ⟨_, _, _, _, run r1 ⟨e, g5⟩, hK, n1, n2⟩
        · exact hK.elim
      · exact hK.elim
    · exact hK.elim
  | _ => exact hK.elim

end Go.Sim

namespace Go.Sim

/-! ### new rows -/
def RowsIn (R : V → Value → Prop) (cs : Array Value) (s : Nat) (rows : List V) : Prop :=
  (∀ x ∈ rows, V.wide s x) ∧ ∀ (i : Nat) x (j : Nat) c, rows[i]? = some x → x.cells[j]? = some c → ∃ u, cs[i * s + j]? = some u ∧ R c u

theorem HR.newRow {w A ρ H} (h : HR w A ρ H) {w' : World} (hw : WStep w w' (fun _ => False)) {cs : Array Value} {e : TypeId} (hb : w'.heap[w.heap.size]? = some (.cells cs e (0, 0)))
    {s : Nat} (hs : 0 < s) {rows : List V} (hr : RowsIn (RS w A) cs s rows) (hl : rows.length * s ≤ cs.size) :
    ∃ ρ', HR w' A ρ' (H ++ [.sl true e s rows]) ∧ Ext w A ρ H w' A ρ' (H ++ [.sl true e s rows]) ∧
      ∀ len cap, len ≤ cap → cap * s ≤ cs.size → Rep w' A ρ' (H ++ [Blk.sl true e s rows]).length (.ref H.length 0 len) (.slice (some ⟨w.heap.size, 0, none⟩) len cap) := by
  let L : Loc := ⟨true, w.heap.size, 0, s, cs.size⟩
  have hA : ∀ b, A b → w'.heap[b]? = w.heap[b]? := fun b hb => hw.blk b (h.lt b hb) id
  obtain ⟨g1, g2⟩ := h.fresh hw (L := L) (k := .sl true e s rows) (fun _ => Nat.le_refl _)
    ⟨rfl, rfl, hs, (fun h => by cases h), fun _ => ⟨⟨cs, hb, rfl⟩, by simpa [L] using hl, hr.1, fun i x j c hx hc => by
      obtain ⟨u, h1, h2⟩ := hr.2 i x j c hx hc
      refine ⟨u, ?_, h2.mono (fun _ h => h) hA⟩
      simp only [World.cell?, L, hb]
      simpa using h1⟩⟩
  refine ⟨_, g1, g2, fun len cap h1 h2 => ?_⟩
  have := @Rep.ref1 w' A (ext ρ H.length L) (H ++ [Blk.sl true e s rows]).length H.length 0 len cap 0 (by simp) (by rw [ext_new]) h1 (by rw [ext_new]; simpa [L] using h2) (by rw [ext_new]; simp [L])
  rw [ext_new] at this
  exact this

/-- A nil slice under an id of its own. -/
theorem HR.nilRow {w A ρ H} (h : HR w A ρ H) (e : TypeId) {s : Nat} (hs : 0 < s) :
    ∃ ρ', HR w A ρ' (H ++ [.sl false e s []]) ∧ Ext w A ρ H w A ρ' (H ++ [.sl false e s []]) ∧ Rep w A ρ' (H ++ [Blk.sl false e s []]).length (.ref H.length 0 0) (.slice none 0 0) := by
  let L : Loc := ⟨false, 0, 0, s, 0⟩
  obtain ⟨g1, g2⟩ := h.fresh (w' := w) ⟨rfl, rfl, rfl, Nat.le_refl _, fun _ _ _ => rfl⟩ (L := L) (k := .sl false e s []) (fun h => by cases h) ⟨rfl, rfl, hs, (fun _ => rfl), fun h => by cases h⟩
  exact ⟨_, g1, g2, .ref0 (by simp) (by rw [ext_new])⟩

/-! ### zero values -/
def elemSize (P : Program) (t : TypeId) : Nat :=
  match P.underlying t with
  | some (.slice e) => tSize P e
  | _ => 0

def leafV (P : Program) (t : TypeId) : Value → Option V
  | .int k n => some (.int k n)
  | .bool b => some (.bool b)
  | .string s => some (.str s)
  | .slice none 0 0 => some (.sl false (elemSize P t) [])
  | .pointer none => some .nil
  | .nilIface => some .nili
  | .nilFunc => some .nilf
  | _ => none

theorem leafV_rs {P t u v} (h : leafV P t u = some v) : (∀ w A, RS w A v u) ∧ v.one = true := by
  unfold leafV at h
  split at h <;> first | (cases h; refine ⟨fun _ _ => ?_, rfl⟩; constructor) | cases h

def leafVs (P : Program) : List TypeId → List Value → Option (List V)
  | [], [] => some []
  | t :: ts, u :: us => match leafV P t u, leafVs P ts us with
    | some v, some vs => some (v :: vs)
    | _, _ => none
  | _, _ => none

theorem leafVs_rs {P} : ∀ {ts us vs}, leafVs P ts us = some vs → us.length = vs.length ∧ (∀ (i : Nat) v u, vs[i]? = some v → us[i]? = some u → (∀ w A, RS w A v u) ∧ v.one = true)
  | [], [], vs, h => by cases h; exact ⟨rfl, fun i v u h => by simp at h⟩
  | [], _ :: _, _, h => by cases h
  | _ :: _, [], _, h => by cases h
  | t :: ts, u :: us, vs, h => by
    simp only [leafVs] at h
    split at h
    · rename_i v vs' h1 h2
      cases h
      obtain ⟨g1, g2⟩ := leafVs_rs h2
      refine ⟨by simp [g1], fun i v' u' h3 h4 => ?_⟩
      cases i with
      | zero => simp at h3 h4; subst h3; subst h4; exact leafV_rs h1
      | succ i => exact g2 i v' u' (by simpa using h3) (by simpa using h4)
    · cases h

def leafTys (P : Program) : Nat → TypeId → List TypeId
  | 0, t => [t]
  | n + 1, t => match P.underlying t with
    | some (.struct fs) => fs.toList.flatMap fun f => leafTys P n f.type
    | some (.array m e) => (List.replicate m (leafTys P n e)).flatten
    | _ => [t]

def absZ (P : Program) (t : TypeId) : Value → Option V
  | .agg cs => match leafVs P (leafTys P 6 t) cs.toList with
    | some vs => some (.agg vs)
    | none => none
  | u => leafV P t u

theorem absZ_rs {P t u v} (h : absZ P t u = some v) : (∀ w A, RS w A v u) ∧ v.cellsOk = true := by
  have one : ∀ {v : V}, v.one = true → v.cellsOk = true := fun hv => by simp [V.cellsOk, V.one_cells hv, hv]
  unfold absZ at h
  split at h
  · split at h
    · rename_i cs vs hvs
      cases h
      obtain ⟨g1, g2⟩ := leafVs_rs hvs
      refine ⟨fun w A => .agg (by simpa using g1) fun i c u hc hu => (g2 i c u hc (by simpa using hu)).1 w A, ?_⟩
      simp only [V.cellsOk, V.cells, List.all_eq_true]
      intro x hx
      obtain ⟨i, hi⟩ := List.getElem?_of_mem hx
      have hil := (List.getElem?_eq_some_iff.1 hi).1
      exact (g2 i x _ hi (List.getElem?_eq_getElem (by omega))).2
    · cases h
  · obtain ⟨g1, g2⟩ := leafV_rs h
    exact ⟨g1, one g2⟩

/-! ### make -/
def pMakeSlice (e : TypeId) (s bytes : Nat) (zero n m : V) (H : Heap) (K : V → Heap → Prop) : Prop :=
  match n, m with
  | .int _ n, .int _ m => 0 ≤ n ∧ n ≤ m ∧ m * bytes ≤ 140737488355328 ∧ K (.ref H.length 0 n.toNat) (H ++ [.sl true e s (List.replicate n.toNat zero)])
  | _, _ => False

theorem rowsIn_made {R : V → Value → Prop} {zero : V} {z : Value} (hok : zero.cellsOk = true) (hz : z.cells.size = zero.cells.length) (hR : ∀ (j : Nat) c u, zero.cells[j]? = some c → z.cells[j]? = some u → R c u) (hs : 0 < zero.cells.length) (n N : Nat)
    (hN : n * zero.cells.length ≤ N) : RowsIn R (madeCells z.cells N) zero.cells.length (List.replicate n zero) := by
  refine ⟨fun x hx => by rw [(List.mem_replicate.1 hx).2]; exact ⟨rfl, hok⟩, fun i x j c hx hc => ?_⟩
  have hi : i < n := by simpa using (List.getElem?_eq_some_iff.1 hx).1
  have hxz : x = zero := by
    rw [List.getElem?_replicate, if_pos hi] at hx
    cases hx; rfl
  subst hxz
  have hj := (List.getElem?_eq_some_iff.1 hc).1
  have hu : z.cells[j]? = some (z.cells[j]'(by omega)) := Array.getElem?_eq_getElem _
  refine ⟨_, ?_, hR j c _ hc hu⟩
  have h1 : (i + 1) * x.cells.length ≤ n * x.cells.length := Nat.mul_le_mul_right _ hi
  rw [Nat.add_mul] at h1
  have hlt : i * x.cells.length + j < N := by omega
  unfold madeCells
  rw [Array.getElem?_map, Array.getElem?_range]
  rw [if_pos hlt]
  simp only [Option.map_some]
  congr 1
  have hm : (i * x.cells.length + j) % z.cells.size = j := by rw [hz, Nat.add_comm, Nat.add_mul_mod_self_right, Nat.mod_eq_of_lt hj]
  rw [hm, getElem!_pos z.cells j (by omega)]

theorem sound_makeSlice {P : Program} {w A ρ H} (h : HR w A ρ H) {t e i z s bytes zero} (hU : P.underlying t = some (.slice e)) (hi : P.info? e = some i) (hs : i.size = s) (hb : i.bytes = bytes) (hz : i.zero = some z)
    (hzero : absZ P e z = some zero) (hw : zero.cells.length = s) (hs0 : 0 < s) (hb0 : 0 < bytes)
    {n m : V} {un um : Value} (hn : Rep w A ρ H.length n un) (hm : Rep w A ρ H.length m um) {K : V → Heap → Prop} (hK : pMakeSlice e s bytes zero n m H K) : Ok1 P w A ρ H (Instr.makeSlice t un um) K := by
  unfold pMakeSlice at hK
  split at hK
  · rename_i k n k' m
    have := hn.int_inv; subst this
    have := hm.int_inv; subst this
    obtain ⟨h0, h1, h2, hK⟩ := hK
    obtain ⟨z1, z2⟩ := absZ_rs hzero
    have zr : Rep w A ρ H.length zero z := .st (z1 w A)
    have zs := zr.cells_size' z2
    have hm1 : m ≤ m * bytes := by
      have : m * 1 ≤ m * bytes := Int.mul_le_mul_of_nonneg_left (by omega) (by omega)
      omega
    subst hb
    have r := run_make (P := P) w t e i z hU hi hz k k' n m h0 h1 (by rw [Int.mul_comm]; omega) (by omega)
    have hle : n.toNat * zero.cells.length ≤ m.toNat * i.size := by rw [hw, hs]; exact Nat.mul_le_mul_right _ (by omega)
    obtain ⟨ρ', g1, g2, g3⟩ := h.newRow (wstep_alloc w _) (alloc_new w (.cells (madeCells z.cells (m.toNat * i.size)) e)) (s := s) hs0 (rows := List.replicate n.toNat zero)
      (by rw [← hw]; exact rowsIn_made z2 zs (fun j c u hc hu => (zr.cells' z2 j c u hc hu).rs (by
          have hst := (z1 w A).static
          cases zero with
          | agg cs => exact V.statics_iff.1 hst c (List.mem_of_getElem? hc)
          | _ => have := idx_one hc; rw [this.2]; exact hst)) (by omega) _ _ hle)
      (by rw [size_madeCells, List.length_replicate, ← hw]; exact hle)
    exact ⟨_, _, _, _, _, _, r, hK, g1, g3 _ _ (by omega) (by rw [size_madeCells, hs]; exact Nat.le_refl _), g2⟩
  · exact hK.elim

end Go.Sim

namespace Go.Sim

/-! ### composite values -/
def setMany (cs : Array Value) (off : Nat) (l : List Value) (k : Nat) : Array Value := (l.zipIdx k).foldl (fun cs x => cs.setIfInBounds (off + x.2) x.1) cs

theorem setMany_size (off : Nat) : ∀ (l : List Value) (k : Nat) (cs : Array Value), (setMany cs off l k).size = cs.size
  | [], _, _ => rfl
  | v :: r, k, cs => by
    unfold setMany
    rw [List.zipIdx_cons, List.foldl_cons]
    have := setMany_size off r (k + 1) (cs.setIfInBounds (off + k) v)
    unfold setMany at this
    rw [this]
    simp

theorem setMany_out (off : Nat) : ∀ (l : List Value) (k : Nat) (cs : Array Value) (q : Nat), (q < off + k ∨ off + k + l.length ≤ q) → (setMany cs off l k)[q]? = cs[q]?
  | [], _, _, _, _ => rfl
  | v :: r, k, cs, q, h => by
    unfold setMany
    rw [List.zipIdx_cons, List.foldl_cons]
    have := setMany_out off r (k + 1) (cs.setIfInBounds (off + k) v) q (by simp at h; omega)
    unfold setMany at this
    rw [this, Array.getElem?_setIfInBounds_ne]
    simp at h
    omega

theorem setMany_in (off : Nat) : ∀ (l : List Value) (k : Nat) (cs : Array Value) (j : Nat), off + k + l.length ≤ cs.size → j < l.length → (setMany cs off l k)[off + k + j]? = l[j]?
  | [], _, _, _, _, h => by simp at h
  | v :: r, k, cs, j, h, hj => by
    have e : setMany cs off (v :: r) k = setMany (cs.setIfInBounds (off + k) v) off r (k + 1) := by
      unfold setMany
      rw [List.zipIdx_cons, List.foldl_cons]
    rw [e]
    simp at h
    cases j with
    | zero =>
      rw [setMany_out off r (k + 1) _ _ (by omega)]
      simp only [Nat.add_zero]
      rw [Array.getElem?_setIfInBounds_self_of_lt (by omega)]
      rfl
    | succ j =>
      have := setMany_in off r (k + 1) (cs.setIfInBounds (off + k) v) j (by simp; omega) (by simpa using hj)
      rw [show off + k + (j + 1) = off + (k + 1) + j by omega, this]
      rfl

theorem fill_cons (place : Nat → Option (Nat × Nat)) (cs : Array Value) (i : Nat) (v : Value) (rest : List (Nat × Value)) {off size : Nat} (hp : place i = some (off, size)) (h1 : v.cells.size = size) (h2 : off + v.cells.size ≤ cs.size) :
    Instr.fill place cs ((i, v) :: rest) = Instr.fill place (setMany cs off v.cells.toList 0) rest := by
  rw [Instr.fill]
  simp only [hp]
  rw [if_neg (by simp [h1]; omega)]
  congr 1
  unfold setMany
  rw [← Array.foldl_toList]
  simp

theorem fill_rows {w A ρ n s} : ∀ (parts : List (Nat × V)) (us : List (Nat × Value)) (cs : Array Value) (rows : List V), RowsIn (RS w A) cs s rows → rows.length * s ≤ cs.size → us.length = parts.length →
    (∀ (k : Nat) p u, parts[k]? = some p → us[k]? = some u → u.1 = p.1 ∧ Rep w A ρ n p.2 u.2) → (∀ p ∈ parts, p.1 < rows.length ∧ p.2.cells.length = s ∧ p.2.cellsOk = true ∧ p.2.static = true) →
    ∃ cs', Instr.fill (fun i => some (i * s, s)) cs us = some cs' ∧ cs'.size = cs.size ∧ RowsIn (RS w A) cs' s (parts.foldl (fun r p => r.set p.1 p.2) rows)
  | [], [], cs, rows, h, _, _, _, _ => ⟨cs, rfl, rfl, h⟩
  | [], _ :: _, _, _, _, _, h, _, _ => by simp at h
  | _ :: _, [], _, _, _, _, h, _, _ => by simp at h
  | p :: parts, u :: us, cs, rows, h, hsz, hlen, hrep, hok => by
    obtain ⟨e, hr⟩ := hrep 0 p u rfl rfl
    obtain ⟨o1, o2, o3, o4⟩ := hok p (by simp)
    have hus := hr.cells_size' o3
    have hle : p.1 * s + u.2.cells.size ≤ cs.size := by
      have : (p.1 + 1) * s ≤ rows.length * s := Nat.mul_le_mul_right _ o1
      rw [Nat.add_mul] at this
      omega
    have hst : ∀ c ∈ p.2.cells, c.static = true := by
      intro c hc
      cases hv : p.2 with
      | agg cs => rw [hv] at hc o4; exact V.statics_iff.1 o4 c hc
      | _ => rw [hv] at hc o4; simp [V.cells] at hc; subst hc; exact o4
    have hrows : RowsIn (RS w A) (setMany cs (p.1 * s) u.2.cells.toList 0) s (rows.set p.1 p.2) := by
      refine ⟨fun x hx => ?_, fun i x j c hx hc => ?_⟩
      · rcases List.mem_or_eq_of_mem_set hx with hx | rfl
        · exact h.1 x hx
        · exact ⟨o2, o3⟩
      · have hj := (List.getElem?_eq_some_iff.1 hc).1
        by_cases ei : p.1 = i
        · subst ei
          rw [List.getElem?_set_self o1] at hx
          cases hx
          have hu : u.2.cells[j]? = some (u.2.cells[j]'(by omega)) := Array.getElem?_eq_getElem _
          refine ⟨_, ?_, (hr.cells' o3 j c _ hc hu).rs (hst c (List.mem_of_getElem? hc))⟩
          have := setMany_in (p.1 * s) u.2.cells.toList 0 cs j (by simpa using hle) (by rw [Array.length_toList]; omega)
          simp only [Nat.add_zero] at this
          rw [this]
          simp
        · rw [List.getElem?_set_ne ei] at hx
          obtain ⟨y, h1, h2⟩ := h.2 i x j c hx hc
          refine ⟨y, ?_, h2⟩
          have hjs : j < s := by have := (h.1 x (List.mem_of_getElem? hx)).1; omega
          rw [setMany_out]
          · exact h1
          · simp only [Array.length_toList, hus, o2, Nat.add_zero]
            rcases Nat.lt_or_ge i p.1 with hlt | hge
            · have : (i + 1) * s ≤ p.1 * s := Nat.mul_le_mul_right _ hlt
              rw [Nat.add_mul] at this
              omega
            · have : (p.1 + 1) * s ≤ i * s := Nat.mul_le_mul_right _ (by omega)
              rw [Nat.add_mul] at this
              omega
    obtain ⟨cs', f1, f2, f3⟩ := fill_rows parts us (setMany cs (p.1 * s) u.2.cells.toList 0) (rows.set p.1 p.2) hrows (by rw [setMany_size, List.length_set]; exact hsz) (by simpa using hlen)
      (fun k q x hk hx => hrep (k + 1) q x (by simpa using hk) (by simpa using hx)) (fun q hq => by rw [List.length_set]; exact hok q (by simp [hq]))
    refine ⟨cs', ?_, by rw [f2, setMany_size], f3⟩
    obtain ⟨i, v⟩ := u
    simp only at e hle hus
    subst e
    rw [fill_cons _ _ _ _ _ rfl (by rw [hus, o2]) (by simpa using hle)]
    exact f1

def rowsOf (zero : V) (len : Nat) (parts : List (Nat × V)) : List V := parts.foldl (fun r p => r.set p.1 p.2) (List.replicate len zero)

def pBuildSlice (e : TypeId) (s : Nat) (zero : V) (len : Nat) (parts : List (Nat × V)) (H : Heap) (K : V → Heap → Prop) : Prop :=
  (∀ p ∈ parts, p.1 < len ∧ p.2.cells.length = s ∧ p.2.cellsOk = true ∧ p.2.static = true) ∧ K (.ref H.length 0 len) (H ++ [.sl true e s (rowsOf zero len parts)])

theorem rowsOf_length (parts : List (Nat × V)) : ∀ rows : List V, (parts.foldl (fun r p => r.set p.1 p.2) rows).length = rows.length := by
  induction parts with
  | nil => intro rows; rfl
  | cons p parts ih => intro rows; rw [List.foldl_cons, ih, List.length_set]

theorem sound_buildSlice {P : Program} {w A ρ H} (h : HR w A ρ H) {t e i z s zero len} (hU : P.underlying t = some (.slice e)) (hi : P.info? e = some i) (hs : i.size = s) (hz : i.zero = some z)
    (hzero : absZ P e z = some zero) (hw : zero.cells.length = s) (hs0 : 0 < s) (hlen : len * s ≤ 16777216)
    {parts : List (Nat × V)} {us : List (Nat × Value)} (hl : us.length = parts.length) (hrep : ∀ (k : Nat) p u, parts[k]? = some p → us[k]? = some u → u.1 = p.1 ∧ Rep w A ρ H.length p.2 u.2)
    {K : V → Heap → Prop} (hK : pBuildSlice e s zero len parts H K) : Ok1 P w A ρ H (Instr.buildSlice t len us.toArray) K := by
  obtain ⟨hok, hK⟩ := hK
  obtain ⟨z1, z2⟩ := absZ_rs hzero
  have zr : Rep w A ρ H.length zero z := .st (z1 w A)
  have zs := zr.cells_size' z2
  have hzst : ∀ c ∈ zero.cells, c.static = true := by
    have hst := (z1 w A).static
    intro c hc
    cases zero with
    | agg cs => exact V.statics_iff.1 hst c hc
    | _ => simp [V.cells] at hc; subst hc; exact hst
  have hmade : RowsIn (RS w A) (madeCells z.cells (len * s)) s (List.replicate len zero) := by
    rw [← hw]
    exact rowsIn_made z2 zs (fun j c u hc hu => (zr.cells' z2 j c u hc hu).rs (hzst c (List.mem_of_getElem? hc))) (by omega) _ _ (Nat.le_refl _)
  obtain ⟨cs', f1, f2, f3⟩ := fill_rows parts us (madeCells z.cells (len * s)) (List.replicate len zero) hmade (by rw [size_madeCells, List.length_replicate]; exact Nat.le_refl _) hl hrep (fun p hp => by rw [List.length_replicate]; exact hok p hp)
  have hsz : cs'.size = len * s := by rw [f2, size_madeCells]
  have run : (Instr.buildSlice t len us.toArray).run P w = .ok (.slice (some ⟨w.heap.size, 0, none⟩) len len) (w.alloc (.cells cs' e)) := by
    by_cases hn : len * s = 0
    · have f1' : Instr.fill (fun i => some (i * s, s)) #[] us = some cs' := by rw [← f1, hn]; simp [madeCells, Array.range_zero']
      simp [Instr.buildSlice, run_underlying hU, sizeOf, typeInfo, hi, hs, hn, newRow, Array.range_zero', f1']
    · have f1' : Instr.fill (fun i => some (i * s, s)) ((Array.range (len * s)).map (z.cells[· % z.cells.size]!)) us = some cs' := f1
      have hgt : ¬ 16777216 < len * s := by omega
      simp [Instr.buildSlice, run_underlying hU, sizeOf, typeInfo, hi, hs, hn, hgt, zeroValue, hz, f1', newRow]
  obtain ⟨ρ', g1, g2, g3⟩ := h.newRow (wstep_alloc w _) (alloc_new w (.cells cs' e)) (s := s) hs0 f3 (by rw [rowsOf_length, List.length_replicate, hsz]; exact Nat.le_refl _)
  exact ⟨_, _, _, _, _, _, run, hK, g1, g3 _ _ (Nat.le_refl _) (by rw [hsz]; exact Nat.le_refl _), g2⟩

/-! ### structs -/
/-- What is put at which cell. -/
def buildCells (zero : List V) : List (Nat × V) → List V
  | [] => zero
  | (off, v) :: r => buildCells (splice zero off v.cells) r

def pBuild (zero : List V) (parts : List (Nat × Nat × V)) (K : V → Prop) : Prop :=
  (∀ p ∈ parts, p.2.2.cells.length = p.2.1 ∧ p.1 + p.2.1 ≤ zero.length ∧ p.2.2.cellsOk = true) ∧ K (.agg (buildCells zero (parts.map fun p => (p.1, p.2.2))))

def CellsIn (R : V → Value → Prop) (vs : List V) (cs : Array Value) : Prop := cs.size = vs.length ∧ ∀ (i : Nat) c u, vs[i]? = some c → cs[i]? = some u → R c u

theorem splice_length {cs : List V} {j : Nat} {ds : List V} (h : j + ds.length ≤ cs.length) : (splice cs j ds).length = cs.length := by
  simp [splice]; omega
theorem splice_set {cs : List V} {j : Nat} {ds : List V} (h : j + ds.length ≤ cs.length) : rowSet (.agg cs) j (.agg ds) = some (.agg (splice cs j ds)) := by
  show (if j + ds.length ≤ cs.length then some (V.agg (splice cs j ds)) else none) = _
  rw [if_pos h]
theorem splice_in {cs : List V} {j : Nat} {ds : List V} (h : j + ds.length ≤ cs.length) {k : Nat} (hk : k < ds.length) : (splice cs j ds)[j + k]? = ds[k]? :=
  (rowSet_cells (splice_set h)).2.2.1 k hk
theorem splice_out {cs : List V} {j : Nat} {ds : List V} (h : j + ds.length ≤ cs.length) {k : Nat} (hk : k < j ∨ j + ds.length ≤ k) : (splice cs j ds)[k]? = cs[k]? :=
  (rowSet_cells (splice_set h)).2.2.2 k hk

theorem fill_cells {w A ρ n} {place : Nat → Option (Nat × Nat)} : ∀ (parts : List (Nat × Nat × V)) (us : List (Nat × Value)) (cs : Array Value) (vs : List V), CellsIn (Rep w A ρ n) vs cs → us.length = parts.length →
    (∀ (k : Nat) p u, parts[k]? = some p → us[k]? = some u → place u.1 = some (p.1, p.2.1) ∧ Rep w A ρ n p.2.2 u.2) → (∀ p ∈ parts, p.2.2.cells.length = p.2.1 ∧ p.1 + p.2.1 ≤ vs.length ∧ p.2.2.cellsOk = true) →
    ∃ cs', Instr.fill place cs us = some cs' ∧ CellsIn (Rep w A ρ n) (buildCells vs (parts.map fun p => (p.1, p.2.2))) cs'
  | [], [], cs, vs, h, _, _, _ => ⟨cs, rfl, h⟩
  | [], _ :: _, _, _, _, h, _, _ => by simp at h
  | _ :: _, [], _, _, _, h, _, _ => by simp at h
  | p :: parts, u :: us, cs, vs, h, hlen, hrep, hok => by
    obtain ⟨e, hr⟩ := hrep 0 p u rfl rfl
    obtain ⟨o1, o2, o3⟩ := hok p (by simp)
    have hus := hr.cells_size' o3
    have hle' : p.1 + p.2.2.cells.length ≤ vs.length := by omega
    have hcells : CellsIn (Rep w A ρ n) (splice vs p.1 p.2.2.cells) (setMany cs p.1 u.2.cells.toList 0) := by
      refine ⟨by rw [setMany_size, splice_length hle', h.1], fun i c x hc hx => ?_⟩
      by_cases hi : p.1 ≤ i ∧ i < p.1 + p.2.2.cells.length
      · have hc' : p.2.2.cells[i - p.1]? = some c := by
          rw [← splice_in hle' (k := i - p.1) (by omega), show p.1 + (i - p.1) = i by omega]; exact hc
        have hx' := setMany_in p.1 u.2.cells.toList 0 cs (i - p.1) (by simp [hus, h.1]; omega) (by simp [hus]; omega)
        rw [show p.1 + 0 + (i - p.1) = i by omega, hx] at hx'
        exact hr.cells' o3 _ _ _ hc' (by simpa using hx'.symm)
      · rw [splice_out hle' (by omega)] at hc
        rw [setMany_out _ _ _ _ _ (by simp [hus]; omega)] at hx
        exact h.2 i c x hc hx
    obtain ⟨cs', f1, f2⟩ := fill_cells parts us (setMany cs p.1 u.2.cells.toList 0) (splice vs p.1 p.2.2.cells) hcells (by simpa using hlen)
      (fun k q x hk hx => hrep (k + 1) q x (by simpa using hk) (by simpa using hx)) (fun q hq => by rw [splice_length hle']; exact hok q (by simp [hq]))
    refine ⟨cs', ?_, f2⟩
    obtain ⟨i, v⟩ := u
    simp only at e hus
    rw [fill_cons _ _ _ _ _ e (by rw [hus, o1]) (by rw [hus, h.1]; exact hle')]
    exact f1

def fieldPlaces (P : Program) (fs : Array Field) : Option (List (Nat × Nat)) := fs.toList.mapM fun f => (P.info? f.type).map fun i => (f.offset, i.size)

theorem sound_build {P : Program} {w A ρ H} (h : HR w A ρ H) {t i z fs places vs} (hU : P.underlying t = some (.struct fs)) (hi : P.info? t = some i) (hz : i.zero = some z)
    (hzero : absZ P t z = some (.agg vs)) (hp : fs.toList.mapM (fun f => (P.info? f.type).map fun i => (f.offset, i.size)) = some places)
    {parts : List (Nat × Nat × V)} {us : List (Nat × Value)} (hl : us.length = parts.length) (hrep : ∀ (k : Nat) p u, parts[k]? = some p → us[k]? = some u → places[u.1]? = some (p.1, p.2.1) ∧ Rep w A ρ H.length p.2.2 u.2)
    {K : V → Heap → Prop} (hK : pBuild vs parts (fun v => K v H)) : Ok1 P w A ρ H (Instr.build t us.toArray) K := by
  obtain ⟨hok, hK⟩ := hK
  obtain ⟨z1, z2⟩ := absZ_rs hzero
  have zr : Rep w A ρ H.length (.agg vs) z := .st (z1 w A)
  obtain ⟨zs, rfl, h1, h2⟩ := zr.agg_inv
  obtain ⟨cs', f1, f2⟩ := fill_cells (place := fun x => places[x]?) parts us zs vs ⟨h1, h2⟩ hl hrep hok
  refine Ok1.still h (u := .agg cs') ?_ (.agg f2.1 f2.2) hK
  simp [Instr.build, run_underlying hU, typeInfo, zeroValue, hi, hz, Array.mapM_eq_mapM_toList, run_places w _ _ hp, Value.cells, f1]

end Go.Sim

namespace Go.Sim

/-! ### append -/
/-- A slice's elements, and how many cells each takes. -/
def elems (H : Heap) : V → Option (Nat × List V)
  | .sl _ s xs => some (s, xs)
  | .ref id off len => match H[id]? with
    | some (.sl _ _ s rows) => if off + len ≤ rows.length then some (s, (rows.drop off).take len) else none
    | some (.fz _ s rows) => if off + len ≤ rows.length then some (s, (rows.drop off).take len) else none
    | _ => none
  | _ => none

theorem RowsAt.sub {R w b st s rows} (h : RowsAt R w b st s rows) (off len : Nat) : RowsAt R w b (st + off * s) s ((rows.drop off).take len) := by
  refine ⟨fun x hx => h.1 x (List.mem_of_mem_drop (List.mem_of_mem_take hx)), fun i x j c hx hc => ?_⟩
  have hi : rows[off + i]? = some x := by
    rw [List.getElem?_take] at hx
    split at hx
    · rwa [List.getElem?_drop] at hx
    · cases hx
  obtain ⟨u, h1, h2⟩ := h.2 (off + i) x j c hi hc
  refine ⟨u, ?_, h2⟩
  rw [← h1, Nat.add_mul]
  congr 2
  omega

theorem RowsAt.move {R w b st s rows o} (h : RowsAt R w b st s rows) (he : rows ≠ [] → o = st) : RowsAt R w b o s rows := by
  refine ⟨h.1, fun i x j c hx hc => ?_⟩
  rw [he (by rintro rfl; simp at hx)]
  exact h.2 i x j c hx hc

theorem take_len {α : Type} {rows : List α} {off len : Nat} (h : off + len ≤ rows.length) : ((rows.drop off).take len).length = len := by simp; omega

theorem elems_rep {w A ρ H} (h : HR w A ρ H) {y : V} {u : Value} (hy : Rep w A ρ H.length y u) {sy : Nat} {ys : List V} (he : elems H y = some (sy, ys)) :
    (u = .slice none 0 0 ∧ ys = []) ∨ ∃ b o cap, u = .slice (some ⟨b, o, none⟩) ys.length cap ∧ RowsAt (RS w A) w b o sy ys := by
  unfold elems at he
  split at he
  · cases he
    cases hy with
    | st hy =>
      cases hy with
      | slnil => exact .inl ⟨rfl, rfl⟩
      | sl h1 h2 h3 h4 h5 => exact .inr ⟨_, _, _, rfl, h3, fun i x j c hx hc => ⟨_, h4 i x j c hx hc, h5 i x j c hx hc⟩⟩
  · rename_i id off len
    split at he
    · rename_i nn e s rows hk
      split at he
      · rename_i hle
        cases he
        obtain ⟨g1, g2, g3, g4, g5⟩ := h.rep id _ hk
        cases hy with
        | st hy => cases hy
        | @ref1 _ _ _ cap o q1 q2 q3 q4 q5 =>
          obtain ⟨f1, f2, f3⟩ := g5 (g1 ▸ q2)
          refine .inr ⟨_, _, cap, by rw [take_len hle], ?_⟩
          refine (f3.sub off len).move fun hne => ?_
          rw [q5 (fun h0 => hne (by have := q3; rw [h0] at this; have : len = 0 := by omega
                                    subst this; simp)), g2]
        | ref0 q1 q2 =>
          refine .inl ⟨rfl, ?_⟩
          simp
      · cases he
    · rename_i nn s rows hk
      split at he
      · rename_i hle
        cases he
        obtain ⟨g1, g2, g3, g4⟩ := h.rep id _ hk
        cases hy with
        | st hy => cases hy
        | @ref1 _ _ _ cap o q1 q2 q3 q4 q5 =>
          obtain ⟨f1, f3⟩ := g4 (g1 ▸ q2)
          refine .inr ⟨_, _, cap, by rw [take_len hle], ?_⟩
          refine (f3.sub off len).move fun hne => ?_
          rw [q5 (fun h0 => hne (by have := q3; rw [h0] at this; have : len = 0 := by omega
                                    subst this; simp)), g2]
        | ref0 q1 q2 =>
          refine .inl ⟨rfl, ?_⟩
          simp
      · cases he
    · cases he
  · cases he

/-- The cells of rows in memory, one behind the other. -/
theorem RowsAt.list {R w b o s rows} (h : RowsAt R w b o s rows) (hs : 0 < s) (hR : ∀ c u, R c u → c.one = true → u.oneCell' = true) :
    ∃ news : List Value, news.length = rows.length * s ∧ (∀ (j : Nat) v, news[j]? = some v → w.cell? ((⟨b, o, none⟩ : Addr).add j) = some v) ∧ (∀ u ∈ news, u.oneCell' = true) ∧
      ∀ (i : Nat) x (j : Nat) c, rows[i]? = some x → x.cells[j]? = some c → ∃ u, news[i * s + j]? = some u ∧ R c u := by
  have key : ∀ q, q < rows.length * s → ∃ x c u, rows[q / s]? = some x ∧ x.cells[q % s]? = some c ∧ w.cell? ⟨b, o + q, none⟩ = some u ∧ R c u ∧ u.oneCell' = true := by
    intro q hq
    have hi : q / s < rows.length := Nat.div_lt_of_lt_mul (by rw [Nat.mul_comm]; exact hq)
    have hx : rows[q / s]? = some rows[q / s] := List.getElem?_eq_getElem hi
    obtain ⟨hw, ho⟩ := h.1 _ (List.getElem_mem hi)
    have hj : q % s < (rows[q / s]).cells.length := by rw [hw]; exact Nat.mod_lt _ hs
    have hc : (rows[q / s]).cells[q % s]? = some ((rows[q / s]).cells[q % s]) := List.getElem?_eq_getElem hj
    obtain ⟨u, h1, h2⟩ := h.2 _ _ _ _ hx hc
    refine ⟨_, _, u, hx, hc, ?_, h2, hR _ _ h2 (List.all_eq_true.1 ho _ (List.getElem_mem hj))⟩
    rw [← h1]
    congr 2
    have := Nat.div_add_mod q s
    rw [Nat.mul_comm] at this
    omega
  let f : Nat → Value := fun q => (w.cell? ⟨b, o + q, none⟩).getD undef
  have hf : ∀ q, q < rows.length * s → w.cell? ⟨b, o + q, none⟩ = some (f q) := by
    intro q hq
    obtain ⟨_, _, u, _, _, h1, _⟩ := key q hq
    simp [f, h1]
  refine ⟨(List.range (rows.length * s)).map f, by simp, fun j v hj => ?_, fun u hu => ?_, fun i x j c hx hc => ?_⟩
  · have hjl : j < rows.length * s := by simpa using (List.getElem?_eq_some_iff.1 hj).1
    rw [addr_add, hf j hjl]
    simp [hjl] at hj
    rw [hj]
  · obtain ⟨q, hq, rfl⟩ := List.mem_map.1 hu
    have hq := List.mem_range.1 hq
    obtain ⟨_, _, u, _, _, h1, _, h3⟩ := key q hq
    rw [hf q hq] at h1
    cases h1
    exact h3
  · have hi := (List.getElem?_eq_some_iff.1 hx).1
    have hj := (List.getElem?_eq_some_iff.1 hc).1
    have hw := (h.1 x (List.mem_of_getElem? hx)).1
    have hlt : i * s + j < rows.length * s := by
      have : (i + 1) * s ≤ rows.length * s := Nat.mul_le_mul_right _ hi
      rw [Nat.add_mul] at this
      omega
    obtain ⟨u, h1, h2⟩ := h.2 i x j c hx hc
    rw [Nat.add_assoc, hf _ hlt] at h1
    cases h1
    exact ⟨_, by simp [hlt], h2⟩

theorem RowsAt.inList {R : V → Value → Prop} {s : Nat} {rows : List V} {news : List Value} (hw : ∀ x ∈ rows, V.wide s x) (h : ∀ (i : Nat) x (j : Nat) c, rows[i]? = some x → x.cells[j]? = some c → ∃ u, news[i * s + j]? = some u ∧ R c u)
    (rest : Array Value) : RowsIn R (news.toArray ++ rest) s rows := by
  refine ⟨hw, fun i x j c hx hc => ?_⟩
  obtain ⟨u, h1, h2⟩ := h i x j c hx hc
  refine ⟨u, ?_, h2⟩
  have := (List.getElem?_eq_some_iff.1 h1).1
  rw [Array.getElem?_append_left (by simpa using this)]
  simpa using h1

theorem RS.oneCell {w A c u} (h : RS w A c u) (hc : c.one = true) : u.oneCell' = true := (Rep.st (ρ := fun _ => default) (n := 0) h).one hc

/-- `append(x, y...)` -/
def pAppend (e : TypeId) (s bytes : Nat) (x y : V) (H : Heap) (K : V → Heap → Prop) : Prop :=
  match elems H y with
  | some (sy, ys) => (sy = s ∨ ys = []) ∧
    match x with
    | .sl false _ [] => ys.length * bytes ≤ 140737488355328 ∧ K (.ref H.length 0 ys.length) (H ++ [.sl (!ys.isEmpty) e s ys])
    | .ref id off len => match H[id]? with
      | some (.sl nn e' s' rows) => e' = e ∧ s' = s ∧ off + len = rows.length ∧ (len + ys.length) * bytes ≤ 140737488355328 ∧
          K (.ref H.length 0 (len + ys.length)) (H.set id .dead ++ [.sl (nn || !ys.isEmpty) e s (rows.drop off ++ ys)])
      | _ => False
    | _ => False
  | none => False

theorem isEmpty_false {α : Type} {l : List α} (h : l ≠ []) : l.isEmpty = false := by cases l <;> simp_all
theorem grown_mul (w : World) (need old : Nat) (e : TypeId) (s : Nat) : need * s ≤ grownCap w need old e * s := Nat.mul_le_mul_right _ (grownCap_ge w need old e)

theorem size_zeros (z : Array Value) (n : Nat) : (Builtin.zeroCells z n).size = n * z.size := by simp [Builtin.zeroCells]

/-- What a nil slice becomes. -/
theorem sound_append_nil {P : Program} {w A ρ H} (h : HR w A ρ H) {t e i z s bytes ty} (hU : P.underlying t = some (.slice e)) (hi : P.info? e = some i) (hs : i.size = s) (hb : i.bytes = bytes) (hz : i.zero = some z) (hzs : z.cells.size = s)
    (hs0 : 0 < s) (hb0 : 0 < bytes) {y : V} {uy : Value} (hy : Rep w A ρ H.length y uy) {sy ys} (he : elems H y = some (sy, ys)) (hsy : sy = s ∨ ys = [])
    (hlen : ys.length * bytes ≤ 140737488355328) {K : V → Heap → Prop} (hK : K (.ref H.length 0 ys.length) (H ++ [.sl (!ys.isEmpty) e s ys])) :
    Ok1 P w A ρ H (Builtin.append_ #[t, t] ty #[.slice none 0 0, uy]) K := by
  have empty : ys = [] → (Builtin.append_ #[t, t] ty #[.slice none 0 0, uy]).run P w = .ok (.slice none 0 0) w → Ok1 P w A ρ H (Builtin.append_ #[t, t] ty #[.slice none 0 0, uy]) K := by
    rintro rfl r
    obtain ⟨ρ', g1, g2, g3⟩ := h.nilRow e hs0
    exact ⟨_, _, _, _, _, _, r, hK, g1, g3, g2⟩
  rcases elems_rep h hy he with ⟨rfl, rfl⟩ | ⟨b, o, cap, rfl, hr⟩
  · refine empty rfl ?_
    simp [Builtin.append_, run_underlying hU, sizeOf, typeInfo, hi, Builtin.lenOf, Builtin.firstCells]
  · rcases hsy with rfl | rfl
    · by_cases hne : ys = []
      · subst hne
        refine empty rfl ?_
        simp [Builtin.append_, run_underlying hU, sizeOf, typeInfo, hi, Builtin.lenOf, Builtin.firstCells, loadCells, loadCellsFrom]
      · have hpos : 0 < ys.length := List.length_pos_iff.2 hne
        obtain ⟨news, n1, n2, n3, n4⟩ := hr.list hs0 (fun c u => RS.oneCell)
        have hl : ys.length ≤ ys.length * bytes := Nat.le_mul_of_pos_right _ hb0
        have r := run_append_nil (P := P) w t ty e i z hU hi hz ⟨b, o, none⟩ ys.length cap news (by rw [hs]; exact n1) n2 hpos (by omega) (by rw [hb]; omega)
        have hcs : (news.toArray ++ Builtin.zeroCells z.cells (grownCap w ys.length 0 e - ys.length)).size = grownCap w ys.length 0 e * sy := by
          rw [Array.size_append, size_zeros, hzs]
          simp only [List.size_toArray, n1]
          rw [← Nat.add_mul]
          congr 1
          have := grownCap_ge w ys.length 0 e
          omega
        obtain ⟨ρ', g1, g2, g3⟩ := h.newRow (wstep_drew_alloc w (.cells (news.toArray ++ Builtin.zeroCells z.cells (grownCap w ys.length 0 e - ys.length)) e)) (alloc_new w.drew _) hs0 (rows := ys)
          (RowsAt.inList hr.1 n4 _) (by rw [hcs]; exact grown_mul _ _ _ _ _)
        rw [isEmpty_false hne] at hK
        exact ⟨_, _, _, _, _, _, r, hK, g1, g3 _ _ (grownCap_ge _ _ _ _) (by rw [hcs]; exact Nat.le_refl _), g2⟩
    · refine empty rfl ?_
      simp [Builtin.append_, run_underlying hU, sizeOf, typeInfo, hi, Builtin.lenOf, Builtin.firstCells, loadCells, loadCellsFrom]

theorem append_idx {xs ys : List V} {i : Nat} {x : V} (h : (xs ++ ys)[i]? = some x) : (i < xs.length ∧ xs[i]? = some x) ∨ (xs.length ≤ i ∧ ys[i - xs.length]? = some x) := by
  rcases Nat.lt_or_ge i xs.length with hi | hi
  · rw [List.getElem?_append_left hi] at h
    exact .inl ⟨hi, h⟩
  · rw [List.getElem?_append_right hi] at h
    exact .inr ⟨hi, h⟩

theorem WStep.weaken {w w' T T'} (h : WStep w w' T) (hT : ∀ b, T b → T' b) : WStep w w' T' := ⟨h.os, h.tape, h.output, h.size, fun b hb hn => h.blk b hb fun ht => hn (hT b ht)⟩

theorem Shape.cell {w : World} {L : Loc} {e : TypeId} (h : Shape w L e) {o : Nat} (ho : o < L.size) : (w.cell? ⟨L.b, o, none⟩).isSome = true := by
  obtain ⟨cs, h1, h2⟩ := h
  unfold World.cell?
  simp only [h1]
  simp [h2, ho]

theorem sound_append {P : Program} {w A ρ H} (h : HR w A ρ H) {t e i z s bytes ty} (hU : P.underlying t = some (.slice e)) (hi : P.info? e = some i) (hs : i.size = s) (hb : i.bytes = bytes) (hz : i.zero = some z) (hzs : z.cells.size = s)
    (hs0 : 0 < s) (hb0 : 0 < bytes) {x y : V} {ux uy : Value} (hx : Rep w A ρ H.length x ux) (hy : Rep w A ρ H.length y uy) {K : V → Heap → Prop} (hK : pAppend e s bytes x y H K) :
    Ok1 P w A ρ H (Builtin.append_ #[t, t] ty #[ux, uy]) K := by
  unfold pAppend at hK
  split at hK
  · rename_i sy ys he
    obtain ⟨hsy, hK⟩ := hK
    split at hK
    · obtain ⟨hlen, hK⟩ := hK
      cases hx with
      | st hx => cases hx; exact sound_append_nil h hU hi hs hb hz hzs hs0 hb0 hy he hsy hlen hK
    · rename_i id off len
      split at hK
      · rename_i nn e' s' rows hk
        obtain ⟨rfl, rfl, hol, hlen, hK⟩ := hK
        obtain ⟨g1, g2, g3, g4, g5⟩ := h.rep id _ hk
        cases hx with
        | st hx => cases hx
        | ref0 q1 q2 =>
          have hnn : nn = false := by rw [← g1]; exact q2
          subst hnn
          have hrows := g4 rfl
          subst hrows
          obtain ⟨k1, k2⟩ := h.kill id
          have hy' : Rep w A ρ (H.set id .dead).length y uy := k2.rep _ _ hy
          by_cases hyid : elems (H.set id .dead) y = some (sy, ys)
          · obtain ⟨u, w', v, H', A', ρ', r1, r2, r3, r4, r5⟩ := sound_append_nil k1 (ty := ty) hU hi hs hb hz hzs hs0 hb0 hy' hyid hsy (by simpa using hlen) (K := K) (by simpa using hK)
            exact ⟨u, w', v, H', A', ρ', r1, r2, r3, r4, k2.trans r5⟩
          · -- `y` is the same nil slice
            have hye : ys = [] ∧ uy = .slice none 0 0 := by
              cases hy with
              | st hy => cases hy <;> first | (simp [elems] at he; done) | (exact absurd he hyid)
              | @ref1 id' _ _ _ _ p1 p2 =>
                by_cases e : id = id'
                · subst e; rw [q2] at p2; cases p2
                · exact absurd (by simp only [elems, List.getElem?_set_ne e] at he ⊢; exact he) hyid
              | @ref0 id' p1 p2 =>
                by_cases e : id = id'
                · subst e
                  simp only [elems, hk] at he
                  simp at he
                  exact ⟨he.2, rfl⟩
                · exact absurd (by simp only [elems, List.getElem?_set_ne e] at he ⊢; exact he) hyid
              | _ => simp [elems] at he
            obtain ⟨rfl, rfl⟩ := hye
            obtain ⟨ρ', n1, n2, n3⟩ := k1.nilRow e' g3
            refine ⟨.slice none 0 0, w, _, _, _, _, ?_, by simpa using hK, n1, by simpa using n3, k2.trans n2⟩
            simp [Builtin.append_, run_underlying hU, sizeOf, typeInfo, hi, Builtin.lenOf, Builtin.firstCells]
        | @ref1 _ _ _ cap o q1 q2 q3 q4 q5 =>
          have hnn : nn = true := by rw [← g1]; exact q2
          subst hnn
          obtain ⟨f1, f2, f3⟩ := g5 rfl
          have hlive : LiveAt H id := ⟨_, hk, rfl⟩
          -- what lies there already
          have hold : RowsAt (RS w A) w (ρ id).b o s' (rows.drop off) := by
            have := f3.sub off len
            rw [List.take_of_length_le (by simp; omega)] at this
            refine this.move fun hne => ?_
            rw [q5 (fun h0 => hne (List.drop_eq_nil_of_le (by omega))), g2]
          have hol' : (rows.drop off).length = len := by simp; omega
          have hAll : ∀ x ∈ rows.drop off ++ ys, sy = s' → V.wide s' x := by
            intro x hx hs'
            rcases List.mem_append.1 hx with hx | hx
            · exact hold.1 x hx
            · subst hs'
              rcases elems_rep h hy he with ⟨_, rfl⟩ | ⟨b, o, cap, _, hr⟩
              · cases hx
              · exact hr.1 x hx
          -- nothing is appended
          have still : ys = [] → (Builtin.append_ #[t, t] ty #[.slice (some ⟨(ρ id).b, o, none⟩) len cap, uy]).run P w = .ok (.slice (some ⟨(ρ id).b, o, none⟩) len cap) w →
              Ok1 P w A ρ H (Builtin.append_ #[t, t] ty #[.slice (some ⟨(ρ id).b, o, none⟩) len cap, uy]) K := by
            rintro rfl r
            let L : Loc := ⟨true, (ρ id).b, o, s', (ρ id).size⟩
            have hle : len * s' ≤ cap * s' := Nat.mul_le_mul_right _ q3
            rw [g2] at q4
            obtain ⟨n1, n2⟩ := h.moved hlive (w' := w) ⟨rfl, rfl, rfl, Nat.le_refl _, fun _ _ _ => rfl⟩ (L := L) (k := .sl true e' s' (rows.drop off)) (.inl rfl)
              ⟨rfl, rfl, g3, (fun h => by cases h), fun _ => ⟨f1, by show o + (rows.drop off).length * s' ≤ (ρ id).size; rw [hol']; omega, hold⟩⟩
            refine ⟨_, w, _, _, _, _, r, by simpa using hK, n1, ?_, n2⟩
            have := @Rep.ref1 w A (ext ρ H.length L) (H.set id .dead ++ [Blk.sl true e' s' (rows.drop off)]).length H.length 0 len cap o (by simp) (by rw [ext_new]) q3 (by rw [ext_new]; exact q4) (by rw [ext_new]; intro _; simp [L])
            rw [ext_new] at this
            simpa [L] using this
          rcases elems_rep h hy he with ⟨rfl, rfl⟩ | ⟨by_, oy, capy, rfl, hr⟩
          · refine still rfl ?_
            simp [Builtin.append_, run_underlying hU, sizeOf, typeInfo, hi, Builtin.lenOf, Builtin.firstCells, q3, storeCells]
          · by_cases hne : ys = []
            · subst hne
              refine still rfl ?_
              simp [Builtin.append_, run_underlying hU, sizeOf, typeInfo, hi, Builtin.lenOf, Builtin.firstCells, q3, storeCells, loadCells, loadCellsFrom]
            · have hsy' : sy = s' := hsy.resolve_right hne
              subst hsy'
              have hpos : 0 < ys.length := List.length_pos_iff.2 hne
              obtain ⟨news, n1, n2, n3, n4⟩ := hr.list hs0 (fun c u => RS.oneCell)
              rw [g2] at q4 q5
              rw [Bool.true_or] at hK
              have hwide : ∀ x ∈ rows.drop off ++ ys, V.wide sy x := fun x hx => hAll x hx rfl
              have hlen' : (rows.drop off ++ ys).length = len + ys.length := by rw [List.length_append, hol']
              by_cases hroom : len + ys.length ≤ cap
              · -- in place
                have hmul : (len + ys.length) * sy ≤ cap * sy := Nat.mul_le_mul_right _ hroom
                rw [Nat.add_mul] at hmul
                have hin : ∀ k, k < news.length → (w.cell? ⟨(ρ id).b, o + len * sy + k, none⟩).isSome = true := fun k hk => f1.cell (by omega)
                have r := run_append_room_cells (P := P) w t ty e' i hU hi (ρ id).b o len cap ⟨by_, oy, none⟩ ys.length capy news (by rw [hs]; exact n1) n2 n3 hroom (by rw [hs]; exact hin) (fun k _ => f1.frozen _)
                rw [hs] at r
                let L : Loc := ⟨true, (ρ id).b, o, sy, (ρ id).size⟩
                let w' := w.setCells (ρ id).b (o + len * sy) news
                have hw := wstep_setCells w (ρ id).b (o + len * sy) news
                have hA : ∀ b, A b → w'.heap[b]? = w.heap[b]? := fun b hb => hw.blk b (h.lt b hb) (fun e => h.out id hlive (e ▸ hb))
                have hrows : RowsAt (RS w' A) w' (ρ id).b o sy (rows.drop off ++ ys) := by
                  refine ⟨hwide, fun q x j c hx hc => ?_⟩
                  have hj : j < sy := by
                    have h1 := (hwide x (List.mem_of_getElem? hx)).1
                    have h2 := (List.getElem?_eq_some_iff.1 hc).1
                    omega
                  rcases append_idx hx with ⟨hlt, hx'⟩ | ⟨hge, hx'⟩
                  · obtain ⟨u, h1, h2⟩ := hold.2 q x j c hx' hc
                    refine ⟨u, ?_, h2.mono (fun _ h => h) hA⟩
                    rw [World.cell?_setCells_out]
                    · exact h1
                    · intro _ _
                      rw [hol'] at hlt
                      have : (q + 1) * sy ≤ len * sy := Nat.mul_le_mul_right _ hlt
                      rw [Nat.add_mul] at this
                      simp only
                      omega
                  · rw [hol'] at hge hx'
                    obtain ⟨u, h1, h2⟩ := n4 (q - len) x j c hx' hc
                    refine ⟨u, ?_, h2.mono (fun _ h => h) hA⟩
                    have hk := (List.getElem?_eq_some_iff.1 h1).1
                    have hset := World.cell?_setCells_in (ρ id).b news (o + len * sy) w hin ((q - len) * sy + j) hk
                    have hq : q * sy = len * sy + (q - len) * sy := by rw [← Nat.add_mul]; congr 1; omega
                    rw [show o + q * sy + j = o + len * sy + ((q - len) * sy + j) by omega, hset]
                    rw [List.getElem?_eq_getElem hk] at h1
                    exact h1
                obtain ⟨m1, m2⟩ := h.moved hlive hw (L := L) (k := .sl true e' sy (rows.drop off ++ ys)) (.inl rfl)
                  ⟨rfl, rfl, hs0, (fun h => by cases h), fun _ => ⟨shape_setCells (L := ρ id) news _ _ f1, by show o + (rows.drop off ++ ys).length * sy ≤ (ρ id).size; rw [hlen', Nat.add_mul]; omega, hrows⟩⟩
                refine ⟨_, _, _, _, _, _, r, hK, m1, ?_, m2⟩
                have := @Rep.ref1 w' A (ext ρ H.length L) (H.set id .dead ++ [Blk.sl true e' sy (rows.drop off ++ ys)]).length H.length 0 (len + ys.length) cap o (by simp) (by rw [ext_new]) hroom (by rw [ext_new]; exact q4) (by rw [ext_new]; intro _; simp [L])
                rw [ext_new] at this
                exact this
              · -- a new block
                obtain ⟨olds, p1, p2, p3, p4⟩ := hold.list hs0 (fun c u => RS.oneCell)
                rw [hol'] at p1
                have hl : len + ys.length ≤ (len + ys.length) * bytes := Nat.le_mul_of_pos_right _ hb0
                have r := run_append_grow (P := P) w t ty e' i z hU hi hz ⟨(ρ id).b, o, none⟩ len cap olds (by rw [hs]; exact p1) p2 ⟨by_, oy, none⟩ ys.length capy news (by rw [hs]; exact n1) n2 (by omega) (by omega)
                  (by rw [hb]; exact growslice_fits (by omega) hlen)
                let cs := olds.toArray ++ news.toArray ++ Builtin.zeroCells z.cells (grownCap w (len + ys.length) cap e' - (len + ys.length))
                have hcs : cs.size = grownCap w (len + ys.length) cap e' * sy := by
                  show (olds.toArray ++ news.toArray ++ _).size = _
                  rw [Array.size_append, Array.size_append, size_zeros, hzs]
                  simp only [List.size_toArray, n1, p1]
                  rw [← Nat.add_mul, ← Nat.add_mul]
                  congr 1
                  have := grownCap_ge w (len + ys.length) cap e'
                  omega
                let L : Loc := ⟨true, w.heap.size, 0, sy, cs.size⟩
                have hw := wstep_drew_alloc w (.cells cs e')
                have hA : ∀ b, A b → (w.drew.alloc (.cells cs e')).heap[b]? = w.heap[b]? := fun b hb => hw.blk b (h.lt b hb) (fun e => e)
                have hnew : (w.drew.alloc (.cells cs e')).heap[w.heap.size]? = some (.cells cs e' (0, 0)) := alloc_new w.drew _
                have hgr := grown_mul w (len + ys.length) cap e' sy
                obtain ⟨m1, m2⟩ := h.moved hlive (hw.weaken (T' := fun b => b = (ρ id).b) (fun _ h => h.elim)) (L := L) (k := .sl true e' sy (rows.drop off ++ ys)) (.inr (Nat.le_refl _))
                  ⟨rfl, rfl, hs0, (fun h => by cases h), fun _ => ⟨⟨cs, hnew, rfl⟩, by show 0 + (rows.drop off ++ ys).length * sy ≤ cs.size; rw [hlen', hcs]; omega, hwide, fun q x j c hx hc => by
                    have hj : j < sy := by
                      have h1 := (hwide x (List.mem_of_getElem? hx)).1
                      have h2 := (List.getElem?_eq_some_iff.1 hc).1
                      omega
                    have key : ∃ u, cs[q * sy + j]? = some u ∧ RS w A c u := by
                      rcases append_idx hx with ⟨hlt, hx'⟩ | ⟨hge, hx'⟩
                      · obtain ⟨u, h1, h2⟩ := p4 q x j c hx' hc
                        have hk := (List.getElem?_eq_some_iff.1 h1).1
                        refine ⟨u, ?_, h2⟩
                        show (olds.toArray ++ news.toArray ++ _)[q * sy + j]? = _
                        rw [Array.getElem?_append_left (by simp; omega), Array.getElem?_append_left (by simpa using hk)]
                        simpa using h1
                      · rw [hol'] at hge hx'
                        obtain ⟨u, h1, h2⟩ := n4 (q - len) x j c hx' hc
                        have hk := (List.getElem?_eq_some_iff.1 h1).1
                        have hq : q * sy = len * sy + (q - len) * sy := by rw [← Nat.add_mul]; congr 1; omega
                        refine ⟨u, ?_, h2⟩
                        show (olds.toArray ++ news.toArray ++ _)[q * sy + j]? = _
                        rw [Array.getElem?_append_left (by simp; omega), Array.getElem?_append_right (by simp; omega)]
                        simp only [List.size_toArray, p1]
                        rw [show q * sy + j - len * sy = (q - len) * sy + j by omega]
                        simpa using h1
                    obtain ⟨u, h1, h2⟩ := key
                    refine ⟨u, ?_, h2.mono (fun _ h => h) hA⟩
                    show (w.drew.alloc (.cells cs e')).cell? ⟨w.heap.size, 0 + q * sy + j, none⟩ = _
                    unfold World.cell?
                    simp only [hnew]
                    rw [Nat.zero_add]
                    exact h1⟩⟩
                refine ⟨_, _, _, _, _, _, r, hK, m1, ?_, m2⟩
                have := @Rep.ref1 (w.drew.alloc (.cells cs e')) A (ext ρ H.length L) (H.set id .dead ++ [Blk.sl true e' sy (rows.drop off ++ ys)]).length H.length 0 (len + ys.length) (grownCap w (len + ys.length) cap e') 0 (by simp) (by rw [ext_new]) (grownCap_ge _ _ _ _) (by rw [ext_new]; show 0 + _ ≤ cs.size; rw [hcs]; simp [L]) (by rw [ext_new]; intro _; simp [L])
                rw [ext_new] at this
                exact this
      · exact hK.elim
    · exact hK.elim
  · exact hK.elim


theorem Rep.unit0 {w A ρ n} : Rep w A ρ n (.tup []) (.tuple #[]) := .tup rfl fun i c u h => by simp at h
theorem run_zero0 {P : Program} {w : World} {t i z} (h1 : P.info? t = some i) (h2 : i.zero = some z) : (zeroValue t).run P w = .ok z w := by
  simp [zeroValue, typeInfo, h1, h2]

/-! ### clear of a slice's end -/
def pClear (s : Nat) (x : V) (H : Heap) (K : V → Heap → Prop) : Prop :=
  match x with
  | .ref id off len => match H[id]? with
    | some (.sl nn e s' rows) => s' = s ∧ off + len = rows.length ∧ K (.tup []) (H.set id (.sl nn e s' (rows.take off)))
    | _ => False
  | _ => False

theorem set_same {H : Heap} {id : Nat} {k : Blk} (h : H[id]? = some k) : H.set id k = H := by
  apply List.ext_getElem?
  intro i
  by_cases e : id = i
  · subst e
    rw [List.getElem?_set_self (List.getElem?_eq_some_iff.1 h).1, h]
  · rw [List.getElem?_set_ne e]

theorem RowsAt.first {R w b st s rows} (h : RowsAt R w b st s rows) (n : Nat) : RowsAt R w b st s (rows.take n) :=
  ⟨fun x hx => h.1 x (List.mem_of_mem_take hx), fun i x j c hx hc => h.2 i x j c (by
    have hi := (List.getElem?_eq_some_iff.1 hx).1
    rw [List.length_take] at hi
    rw [List.getElem?_take_of_lt (by omega)] at hx
    exact hx) hc⟩

theorem mem_zeroCells {z : Array Value} {n : Nat} {v : Value} (hz : 0 < z.size) (h : v ∈ (Builtin.zeroCells z n).toList) : v ∈ z := by
  unfold Builtin.zeroCells at h
  rw [Array.toList_map, List.mem_map] at h
  obtain ⟨i, _, rfl⟩ := h
  rw [getElem!_pos z (i % z.size) (Nat.mod_lt _ hz)]
  exact Array.getElem_mem _

theorem sound_clear {P : Program} {w A ρ H} (h : HR w A ρ H) {t e i z s ty} (hU : P.underlying t = some (.slice e)) (hi : P.info? e = some i) (hz : i.zero = some z) (hzs : z.cells.size = s) (hz1 : ∀ u ∈ z.cells, u.oneCell' = true)
    (hs0 : 0 < s) {x : V} {ux : Value} (hx : Rep w A ρ H.length x ux) {K : V → Heap → Prop} (hK : pClear s x H K) :
    Ok1 P w A ρ H (Builtin.clear_ #[t] ty #[ux]) K := by
  unfold pClear at hK
  split at hK
  · rename_i id off len
    split at hK
    · rename_i nn e' s' rows hk
      obtain ⟨rfl, hol, hK⟩ := hK
      subst hzs
      have hb := h.rep id _ hk
      have nothing : len = 0 → (Builtin.clear_ #[t] ty #[ux]).run P w = .ok (.tuple #[]) w → Ok1 P w A ρ H (Builtin.clear_ #[t] ty #[ux]) K := by
        intro h0 r
        have e1 : rows.take off = rows := List.take_of_length_le (by omega)
        rw [e1, set_same hk] at hK
        exact ⟨_, _, _, _, _, _, r, hK, h, Rep.unit0, Ext.refl _ _ _ _⟩
      cases hx with
      | st hx => cases hx
      | ref0 q1 q2 => exact nothing rfl (by simp [Builtin.clear_, run_underlying hU])
      | @ref1 _ _ _ cap o q1 q2 q3 q4 q5 =>
        by_cases h0 : len = 0
        · subst h0
          exact nothing rfl (by simp [Builtin.clear_, run_underlying hU])
        · obtain ⟨b1, b2, b3, b4, b5⟩ := hb
          obtain ⟨c5, b6, b7⟩ := b5 (b1.symm.trans q2)
          have hnn : nn = true := b1.symm.trans q2
          subst hnn
          have hcap : cap ≠ 0 := by omega
          have ho := q5 hcap
          have hlive : LiveAt H id := ⟨_, hk, rfl⟩
          let vs := (Builtin.zeroCells z.cells len).toList
          have hvl : vs.length = len * z.cells.size := by simp [vs, size_zeros]
          have hcs : len * z.cells.size ≤ cap * z.cells.size := Nat.mul_le_mul_right _ q3
          rw [b2] at q4 ho
          have run0 := run_storeCells_cells (P := P) (ρ id).b o vs 0 w (fun j hj => by
              rw [Nat.add_zero]
              refine c5.cell ?_
              omega) (fun j _ => c5.frozen _) (fun v hv => hz1 v (mem_zeroCells (by omega) hv))
          have hw := wstep_setCells w (ρ id).b (o + 0) vs
          have hA : ∀ b, A b → (w.setCells (ρ id).b (o + 0) vs).heap[b]? = w.heap[b]? := fun b hb => hw.blk b (h.lt b hb) (fun e => h.out id hlive (e ▸ hb))
          have hr : RowsAt (RS (w.setCells (ρ id).b (o + 0) vs) A) (w.setCells (ρ id).b (o + 0) vs) (ρ id).b (ρ id).st z.cells.size (rows.take off) := by
            have b8 := b7.first off
            refine ⟨b8.1, fun q y j c hy hc => ?_⟩
            obtain ⟨u, u1, u2⟩ := b8.2 q y j c hy hc
            refine ⟨u, ?_, u2.mono (fun _ h => h) hA⟩
            rw [World.cell?_setCells_out]
            · exact u1
            · intro _ _
              have hq := (List.getElem?_eq_some_iff.1 hy).1
              rw [List.length_take] at hq
              have hj := (List.getElem?_eq_some_iff.1 hc).1
              have hyw := (b8.1 y (List.mem_of_getElem? hy)).1
              have : (q + 1) * z.cells.size ≤ off * z.cells.size := Nat.mul_le_mul_right _ (by omega)
              rw [Nat.add_mul] at this
              simp only
              omega
          obtain ⟨n1, n2⟩ := h.store hlive hw (k := .sl true e' z.cells.size (rows.take off)) ⟨q2, b2, b3, (fun h => by cases h), fun _ => ⟨shape_setCells _ _ _ c5, by
            have : (rows.take off).length * z.cells.size ≤ rows.length * z.cells.size := Nat.mul_le_mul_right _ (by simp; omega)
            omega, hr⟩⟩
          refine ⟨.tuple #[], _, _, _, _, _, ?_, hK, n1, Rep.unit0, n2⟩
          cases len with
          | zero => exact absurd rfl h0
          | succ len => simp [Builtin.clear_, run_underlying hU, run_zero0 hi hz, vs, run0]
    · exact hK.elim
  · exact hK.elim

end Go.Sim
