/- An evaluator over abstract values: code, contracts, and the words that simp runs (part 3). -/
import Derived.Test.YtahdgiaddhoaoaaSimB

namespace Go.Sim

def pickQ (ops : Array Oper) (listed : Array Bool) (i : Nat) : Bool :=
  quietAt ops i && Region.free .any ops listed i && (List.range ops.size).all fun j => !(depOn ops i j) || !(listed.getD j true)

def allR (F : Nat → Prop) : List Nat → Prop
  | [] => True
  | [i] => F i
  | i :: r => F i ∧ allR F r

theorem allR_iff {F : Nat → Prop} : ∀ {l : List Nat}, allR F l → ∀ i ∈ l, F i
  | [], _, i, hi => by cases hi
  | [a], h, i, hi => by simp at hi; subst hi; exact h
  | a :: b :: r, h, i, hi => by
    rcases List.mem_cons.1 hi with rfl | hi
    · exact h.1
    · exact allR_iff h.2 i hi

/-- Quiet operations first; else whatever may come next. -/
def aDrw (P : Program) (N : Nat) (ops : Array Oper) (K : Env → Heap → Prop) : Nat → List (Nat × List V) → Array Bool → Env → Heap → Prop
  | 0, _, listed, e, H => match Region.ready .any ops listed with
    | [] => K e H
    | _ :: _ => False
  | f + 1, g, listed, e, H => match Region.ready .any ops listed with
    | [] => K e H
    | r :: rs => match (r :: rs).find? (pickQ ops listed) with
      | some i => aAt P N ops i e H (aDrw P N ops K f ((i, readAt P ops i e) :: g) (listed.setIfInBounds i true))
      | none => allR (fun i => aAt P N ops i e H fun e' H' => guardOk ops i H H' g ∧ aDrw P N ops K f g (listed.setIfInBounds i true) e' H') (r :: rs)

theorem aDrw_all {P N ops K} : ∀ (f : Nat) {g listed e H}, listed.size = ops.size → aDrw P N ops K f g listed e H → aAnyG P N ops K g f listed e H
  | 0, g, listed, e, H, hsz, h => by
    simp only [aDrw] at h
    split at h
    · rename_i hr; exact ⟨hr, h⟩
    · exact h.elim
  | f + 1, g, listed, e, H, hsz, h => by
    simp only [aDrw] at h
    split at h
    · rename_i hr
      exact ⟨fun _ => h, fun i hi => by rw [hr] at hi; cases hi⟩
    · rename_i r rs hr
      split at h
      · rename_i i hf
        have hp := List.find?_some hf
        have hm := List.mem_of_find?_eq_some hf
        rw [← hr] at hm
        simp only [pickQ, Bool.and_eq_true] at hp
        obtain ⟨⟨hq, hfree⟩, hdep⟩ := hp
        unfold quietAt at hq
        split at hq
        · rename_i oi hoi
          obtain ⟨x, kb, h1, h2⟩ := aAt_calm hoi hq h
          refine aAnyG_take hoi f hsz hm (Region.free_spec hoi hfree) (fun j hj hl => ?_) h2 (aDrw_all f (by simpa using hsz) h1)
          have hjl : j < ops.size := by
            obtain ⟨o, _, h3, _⟩ := depOn_spec hj
            exact (Array.getElem?_eq_some_iff.1 h3).1
          have := List.all_eq_true.1 hdep j (List.mem_range.2 hjl)
          rw [hj, hl] at this
          cases this
        · cases hq
      · refine ⟨fun h0 => (by rw [h0] at hr; cases hr), fun i hi => ?_⟩
        rw [hr] at hi
        exact aAt_mono (fun x kb H' hh => ⟨hh.1, aDrw_all f (by simpa using hsz) hh.2⟩) (fun _ hh => ⟨hh.1, aDrw_all f (by simpa using hsz) hh.2⟩) (allR_iff h i hi)

/-! ## 12. Leaving blocks behind -/
def pWk (n0 : Nat) (vs : List V) (H : Heap) (K : List V → Heap → Prop) : Prop :=
  ∃ (fl vw : List Nat) (order : List RT) (vs' : List V) (Hs : Heap),
    Sub false (frzL H fl) vw order Hs ∧ n0 ≤ order.length ∧ (∀ i, i < n0 → order[i]? = some (.to i)) ∧
    vs.map (·.view (vwOf (frzL H fl) vw)) = vs'.map (·.ren (toF order)) ∧ V.wfs order.length vs' = true ∧ K vs' Hs

mutual
theorem wf_mono {n m : Nat} (h : n ≤ m) : ∀ v : V, v.wf n = true → v.wf m = true
  | .agg cs, hv => by rw [V.wf] at hv ⊢; exact wfs_mono h cs hv
  | .tup cs, hv => by rw [V.wf] at hv ⊢; exact wfs_mono h cs hv
  | .iface t v, hv => by rw [V.wf] at hv ⊢; exact wf_mono h v hv
  | .fn k cs, hv => by rw [V.wf] at hv ⊢; exact wfs_mono h cs hv
  | .ref id off len, hv => by simp only [V.wf, decide_eq_true_eq] at hv ⊢; omega
  | .ptr id i j, hv => by simp only [V.wf, decide_eq_true_eq] at hv ⊢; omega
  | .int .., _ => rfl
  | .bool .., _ => rfl
  | .str .., _ => rfl
  | .sl .., _ => rfl
  | .nil, _ => rfl
  | .nili, _ => rfl
  | .nilf, _ => rfl
  | .loc .., _ => rfl
  | .undef, _ => rfl
theorem wfs_mono {n m : Nat} (h : n ≤ m) : ∀ l : List V, V.wfs n l = true → V.wfs m l = true
  | [], _ => rfl
  | v :: r, hv => by
    simp only [V.wfs, Bool.and_eq_true] at hv ⊢
    exact ⟨wf_mono h v hv.1, wfs_mono h r hv.2⟩
end

mutual
theorem static_wf (n : Nat) : ∀ v : V, v.static = true → v.wf n = true
  | .agg cs, h => by rw [V.wf]; exact statics_wf n cs h
  | .tup cs, h => by cases h
  | .iface t v, h => by rw [V.wf]; exact static_wf n v h
  | .fn k cs, h => by rw [V.wf]; exact statics_wf n cs h
  | .ref .., h => by cases h
  | .ptr .., h => by cases h
  | .int .., _ => rfl
  | .bool .., _ => rfl
  | .str .., _ => rfl
  | .sl .., _ => rfl
  | .nil, _ => rfl
  | .nili, _ => rfl
  | .nilf, _ => rfl
  | .loc .., _ => rfl
  | .undef, _ => rfl
theorem statics_wf (n : Nat) : ∀ l : List V, V.statics l = true → V.wfs n l = true
  | [], _ => rfl
  | v :: r, h => by
    simp only [V.statics, Bool.and_eq_true] at h
    simp only [V.wfs, Bool.and_eq_true]
    exact ⟨static_wf n v h.1, statics_wf n r h.2⟩
end

theorem rep_wf {w A ρ n v u} (h : Rep w A ρ n v u) : v.wf n = true := by
  have cells : ∀ {cs : List V} {us : Array Value}, us.size = cs.length → (∀ (i : Nat) c u, cs[i]? = some c → us[i]? = some u → c.wf n = true) → V.wfs n cs = true := by
    intro cs us hl h
    refine V.wfs_iff.2 fun c hc => ?_
    obtain ⟨i, hi⟩ := List.getElem?_of_mem hc
    have hil := (List.getElem?_eq_some_iff.1 hi).1
    exact h i c _ hi (Array.getElem?_eq_getElem (by omega))
  induction h with
  | st h => exact static_wf n _ h.static
  | agg h1 _ ih => rw [V.wf]; exact cells h1 ih
  | tup h1 _ ih => rw [V.wf]; exact cells h1 ih
  | iface _ ih => rw [V.wf]; exact ih
  | fn h1 _ ih => rw [V.wf]; exact cells h1 ih
  | ref1 h1 => simp [V.wf, h1]
  | ref0 h1 => simp [V.wf, h1]
  | ptr h1 => simp [V.wf, h1]

theorem rep_cut {w A ρ n m v u} (h : Rep w A ρ n v u) : v.wf m = true → Rep w A ρ m v u := by
  induction h with
  | st h => intro _; exact .st h
  | agg h1 _ ih => intro hw; rw [V.wf] at hw; exact .agg h1 fun i c u hc hu => ih i c u hc hu (V.wfs_iff.1 hw c (List.mem_of_getElem? hc))
  | tup h1 _ ih => intro hw; rw [V.wf] at hw; exact .tup h1 fun i c u hc hu => ih i c u hc hu (V.wfs_iff.1 hw c (List.mem_of_getElem? hc))
  | iface _ ih => intro hw; rw [V.wf] at hw; exact .iface (ih hw)
  | fn h1 _ ih => intro hw; rw [V.wf] at hw; exact .fn h1 fun i c u hc hu => ih i c u hc hu (V.wfs_iff.1 hw c (List.mem_of_getElem? hc))
  | ref1 h1 h2 h3 h4 h5 => intro hw; simp only [V.wf, decide_eq_true_eq] at hw; exact .ref1 hw h2 h3 h4 h5
  | ref0 h1 h2 => intro hw; simp only [V.wf, decide_eq_true_eq] at hw; exact .ref0 hw h2
  | ptr h1 h2 => intro hw; simp only [V.wf, decide_eq_true_eq] at hw; exact .ptr hw h2

theorem pWk_sound {w0 A0 ρ0 H0 w A ρ H vs K} (h : HR w A ρ H) (he : Ext w0 A0 ρ0 H0 w A ρ H) (hK : pWk H0.length vs H K) :
    ∃ A' ρ' vs' Hs, K vs' Hs ∧ HR w A' ρ' Hs ∧ Ext w0 A0 ρ0 H0 w A' ρ' Hs ∧ vs'.length = vs.length ∧ ∀ (i : Nat) v v' u, vs[i]? = some v → vs'[i]? = some v' → Rep w A ρ H.length v u → Rep w A' ρ' Hs.length v' u := by
  obtain ⟨fl, vw, order, vs', Hs, hS, hn, hid, hvs, hwf, hK⟩ := hK
  obtain ⟨A1, h1, e1, hl⟩ := frzL_sound (w := w) (ρ := ρ) fl A H h
  obtain ⟨g1, g2⟩ := sub_sound h1 hS
  have e2 := he.trans e1
  have hA : ∀ b, lentA A1 ρ (frzL H fl) false vw b → A1 b := by
    rintro b (hb | ⟨hb, _⟩)
    · exact hb
    · cases hb
  have hA' : ∀ b, A1 b → lentA A1 ρ (frzL H fl) false vw b := fun b hb => .inl hb
  have hloc : ∀ i, i < H0.length → locOf ρ order i = ρ i := fun i hi => by simp [locOf, toF_some (hid i hi)]
  have live : ∀ {i}, LiveAt Hs i → ∃ j, LiveAt (frzL H fl) j ∧ (locOf ρ order i) = ρ j := by
    rintro i ⟨k, hk, hl⟩
    rcases hS.blk i k hk with rfl | ⟨j, k', h1, h2, h3, h4⟩ | ⟨s, e, h1, rfl, _⟩
    · cases hl
    · refine ⟨j, ⟨k', h2, ?_⟩, by simp [locOf, toF_some h1]⟩
      cases k <;> cases k' <;> simp [Blk.view, Blk.ren] at h3 <;> simp_all [Blk.live]
    · cases hl
  refine ⟨_, _, vs', Hs, hK, g1, ?_, ?_, ?_⟩
  · exact {
      rep := fun v u hr => by
        have hw := rep_wf hr
        have := rep_cut (e2.rep v u hr) hw
        exact this.mono hA' (fun _ _ => rfl) (by rw [hS.len]; exact hn) hloc
      os := e2.os, tape := e2.tape, output := e2.output, size := e2.size, blk := e2.blk
      loc := fun i hi => (hloc i hi).trans (e2.loc i hi)
      len := by rw [hS.len]; exact hn
      own := fun i hi => by
        obtain ⟨j, h3, h4⟩ := live hi
        rw [h4]
        exact e2.own j h3
      adm := fun b hb => e2.adm b (hA b hb) }
  · have := congrArg List.length hvs
    simpa using this.symm
  · intro i v v' u hv hv' hr
    have hm : (vs.map (·.view (vwOf (frzL H fl) vw)))[i]? = (vs'.map (·.ren (toF order)))[i]? := by rw [hvs]
    rw [List.getElem?_map, List.getElem?_map, hv, hv'] at hm
    exact g2 v v' u (e1.rep v u hr) (Option.some.inj hm) (V.wfs_iff.1 hwf v' (List.mem_of_getElem? hv'))

/-- All is given up; what goes on is immutable. -/
theorem pWk_all {vs : List V} {H : Heap} {K : List V → Heap → Prop} (fl : List Nat) {vs' : List V} (hv : vs.map (·.view (vwOf (frzL H fl) fl)) = vs') (hs : V.statics vs' = true) (hK : K vs' []) : pWk 0 vs H K := by
  refine ⟨fl, fl, [], vs', [], ⟨rfl, fun i k hk => by simp at hk, fun i1 i2 j _ h1 => by simp at h1, fun h => (by cases h), fun _ id hid e s rows hk => ?_⟩, Nat.zero_le _, fun i hi => by omega, ?_, statics_wf _ _ hs, hK⟩
  · exact frzL_not fl H hid e s rows hk
  · rw [hv, ← V.rens_map, V.rens_static _ _ hs]

end Go.Sim

namespace Go.Sim

/-! ## 13. Code -/
def memN (l : List Nat) (t : Nat) : Bool :=
  match l with
  | [] => false
  | d :: r => match Nat.beq t d with
    | true => true
    | false => memN r t

def Env.forget (e : Env) (D : List Nat) : Env :=
  ⟨fun t => match memN D t with | true => .undef | false => e.v t, fun t => match memN D t with | true => none | false => e.k t⟩

def setVs (N : Nat) : List Nat → Nat → List V → Env → Env
  | [], _, _, e => e
  | t :: r, i, xs, e => setVs N r (i + 1) xs (e.put N (some t) (xs.getD i .undef) none)

def loopEnv (N : Nat) (e : Env) (D live : List Nat) (xs : List V) : Env := setVs N live 0 xs (e.forget D)

def asg : Code → List Nat
  | .region _ ops _ => dsts ops
  | .seq a b => asg a ++ asg b
  | .cond _ a b => asg a ++ asg b
  | .block _ c => asg c
  | .loop c => asg c
  | _ => []

def firstR : Code → Option Nat
  | .region id _ _ => some id
  | .seq a b => match firstR a with
    | some r => some r
    | none => firstR b
  | .cond _ a b => match firstR a with
    | some r => some r
    | none => firstR b
  | .block _ c => firstR c
  | .loop c => firstR c
  | _ => none

def hintOf (hint : Nat → Option (List Nat)) (c : Code) : List Nat :=
  match firstR c with
  | some r => match hint r with
    | some l => l
    | none => []
  | none => []

/-- Where a `cond` has a hint, its two ends meet. -/
def joinOf (hint : Nat → Option (List Nat)) : Code → Option (List Nat)
  | .cond c a b => match firstR (.cond c a b) with
    | some r => hint r
    | none => none
  | _ => none

abbrev Post := Exit → Env → Heap → Prop

def thenK (next : Env → Heap → Prop) (K : Post) : Post
  | .normal, e, H => next e H
  | x, e, H => K x e H
def blockK (id : Nat) (K : Post) : Post
  | .exit id', e, H => match Nat.beq id' id with
    | true => K .normal e H
    | false => K (.exit id') e H
  | x, e, H => K x e H

def Env.know (N : Nat) (e : Env) (c : Operand) (b : Bool) : Env :=
  match c with
  | .tmp t => e.put N (some t) (.bool b) (some b)
  | _ => e

def awp (P : Program) (N : Nat) (hint : Nat → Option (List Nat)) : Code → Env → Heap → Post → Prop
  | .skip, e, H, K => K .normal e H
  | .label _, e, H, K => K .normal e H
  | .exit id, e, H, K => K (.exit id) e H
  | .ret, e, H, K => K .ret e H
  | .region _ ops d, e, H, K => match d with
    | false => aOps P N ops (K .normal) (List.range ops.size) e H
    | true => aDrw P N ops (K .normal) ops.size [] (Array.replicate ops.size false) e H
  | .seq x y, e, H, K => match joinOf hint x with
    | none => awp P N hint x e H (thenK (fun e' H' => awp P N hint y e' H' K) K)
    | some live => ∃ J : List V → Heap → Prop, (∀ xs H', J xs H' → awp P N hint y (loopEnv N e (asg x) live xs) H' K) ∧
        awp P N hint x e H (thenK (fun e' H' => pWk H.length (live.map e'.v) H' J) K)
  | .cond c x y, e, H, K => match knownOf e c with
    | some true => awp P N hint x e H K
    | some false => awp P N hint y e H K
    | none => match evalE P e 4 c with
      | .bool b => (b = true → awp P N hint x (e.know N c true) H K) ∧ (b = false → awp P N hint y (e.know N c false) H K)
      | _ => False
  | .block id c, e, H, K => awp P N hint c e H (blockK id K)
  | .loop c, e, H, K => ∃ (I : List V → Heap → Prop) (μ : List V → Heap → Nat), pWk H.length ((hintOf hint c).map e.v) H I ∧
      ∀ xs H', I xs H' → awp P N hint c (loopEnv N e (asg c) (hintOf hint c) xs) H'
        (thenK (fun e' H'' => pWk H.length ((hintOf hint c).map e'.v) H'' fun ys Hs => I ys Hs ∧ μ ys Hs < μ xs H') K)
  | _, _, _, _ => False

theorem memN_iff {l : List Nat} {t : Nat} : memN l t = true ↔ t ∈ l := by
  induction l with
  | nil => simp [memN]
  | cons d r ih =>
    unfold memN
    cases hb : Nat.beq t d with
    | true => simp [Nat.eq_of_beq_eq_true hb]
    | false =>
      have : t ≠ d := fun h => by subst h; simp at hb
      simp [ih, this]

theorem setVs_er {w A ρ n N a} : ∀ (live : List Nat) (i : Nat) (xs : List V) (e : Env), ERep w A ρ n N e a → (∀ (k : Nat) t, live[k]? = some t → ∀ x, xs[i + k]? = some x → Rep w A ρ n x (a.tmps.getD t Go.undef)) → ERep w A ρ n N (setVs N live i xs e) a
  | [], _, _, _, h, _ => h
  | t :: r, i, xs, e, h, hx => by
    refine setVs_er r (i + 1) xs _ ?_ fun k t' hk x hx' => hx (k + 1) t' (by simpa using hk) x (by rw [← hx']; congr 1; omega)
    refine ⟨fun t' => ?_, fun t' b hb => ?_, h.size, h.defers⟩
    · simp only [Env.put, upd_eq]
      split
      · rename_i hh
        obtain ⟨rfl, _⟩ := hh
        cases hxi : xs[i]? with
        | none => simp [List.getD_eq_getElem?_getD, hxi]; exact Rep.undef
        | some x =>
          rw [List.getD_eq_getElem?_getD, hxi]
          exact hx 0 t' rfl x hxi
      · exact h.val t'
    · simp only [Env.put, upd_eq] at hb ⊢
      split at hb
      · cases hb
      · rw [if_neg (by assumption)]; exact h.kn t' b hb

theorem loopEnv_er {w0 A0 ρ0} {H0 : Heap} {w A ρ} {H : Heap} {N e a0 a D live} {xs vs : List V} {H1 : Heap} {A1 ρ1} (h0 : ERep w0 A0 ρ0 H0.length N e a0) (hx : Ext w0 A0 ρ0 H0 w A1 ρ1 H1) (hsame : ∀ t, t ∉ D → a.tmps.getD t Go.undef = a0.tmps.getD t Go.undef) (hsize : a.tmps.size = N) (hdef : a.defers = [])
    (_hl : xs.length = vs.length) (hvs : ∀ (i : Nat) v v' u, vs[i]? = some v → xs[i]? = some v' → Rep w A ρ H.length v u → Rep w A1 ρ1 H1.length v' u)
    (hv : ∀ (k : Nat) t v, live[k]? = some t → vs[k]? = some v → Rep w A ρ H.length v (a.tmps.getD t Go.undef)) (hvl : vs.length = live.length) : ERep w A1 ρ1 H1.length N (loopEnv N e D live xs) a := by
  unfold loopEnv
  refine setVs_er live 0 xs _ ⟨fun t => ?_, fun t b hb => ?_, hsize, hdef⟩ fun k t hk x hxk => ?_
  · simp only [Env.forget]
    split
    · exact Rep.undef
    · rename_i hm
      rw [hsame t (fun hh => by rw [memN_iff.2 hh] at hm; cases hm)]
      exact hx.rep _ _ (h0.val t)
  · simp only [Env.forget] at hb ⊢
    split at hb
    · cases hb
    · rename_i hm
      exact h0.kn t b hb
  · rw [Nat.zero_add] at hxk
    have hkl := (List.getElem?_eq_some_iff.1 hk).1
    have hvk : vs[k]? = some (vs[k]'(by omega)) := List.getElem?_eq_getElem _
    exact hvs k _ x _ hvk hxk (hv k t _ hk hvk)

theorem exists_min {P : Nat → Prop} (h : ∃ n, P n) : ∃ n, P n ∧ ∀ m, P m → n ≤ m := by
  obtain ⟨n, hn⟩ := h
  induction n using Nat.strongRecOn with
  | _ n ih =>
    by_cases hc : ∃ m, m < n ∧ P m
    · obtain ⟨m, h1, h2⟩ := hc
      exact ih m h1 h2
    · refine ⟨n, hn, fun m hm => ?_⟩
      rcases Nat.lt_or_ge m n with h1 | h1
      · exact absurd ⟨m, h1, hm⟩ hc
      · exact h1

/-- A loop whose invariant speaks of a state that the machine does not show. -/
theorem wp_loop_ix {α : Type} {P : Program} {Q : Exit → Act → World → Prop} {a : Act} {w : World} {c : Code} (I : α → Act → World → Prop) (μ : α → Nat) (x0 : α) (h0 : I x0 a w)
    (round : ∀ x a w, I x a w → c.wp P (Exit.then (fun a' w' => ∃ x', I x' a' w' ∧ μ x' < μ x) Q) a w) : (Code.loop c).wp P Q a w := by
  let S : Act → World → Nat → Prop := fun a w n => ∃ x, I x a w ∧ μ x = n
  let m : Act → World → Nat := fun a w => open Classical in if h : ∃ n, S a w n then (exists_min h).choose else 0
  have hm : ∀ a w x, I x a w → (∃ x', I x' a w ∧ μ x' = m a w) ∧ m a w ≤ μ x := by
    intro a w x hx
    have h : ∃ n, S a w n := ⟨_, x, hx, rfl⟩
    have e : m a w = (exists_min h).choose := by simp only [m]; rw [dif_pos h]
    have hs := (exists_min h).choose_spec
    rw [e]
    exact ⟨hs.1, hs.2 _ ⟨x, hx, rfl⟩⟩
  refine wp_loop (fun a w => ∃ x, I x a w) m ⟨x0, h0⟩ fun a w ⟨x, hx⟩ => ?_
  obtain ⟨⟨x', h1, h2⟩, _⟩ := hm a w x hx
  refine wp_mono (round x' a w h1) fun e a' w' hq => ?_
  cases e with
  | normal =>
    obtain ⟨x2, h3, h4⟩ := hq
    exact ⟨⟨x2, h3⟩, by rw [← h2]; exact Nat.lt_of_le_of_lt (hm a' w' x2 h3).2 h4⟩
  | _ => exact hq

/-- What code leaves, told of the state before. -/
def PostW (N : Nat) (w : World) (A : Nat → Prop) (ρ : Nat → Loc) (H : Heap) (a : Act) (D : List Nat) (K : Post) : Exit → Act → World → Prop := fun x a' w' =>
  ∃ e' H' A' ρ', K x e' H' ∧ After N w A ρ H a D e' H' a' w' A' ρ'

theorem know_er {P : Program} {w A ρ n N e a c b} (h : ERep w A ρ n N e a) (hc : evalE P e 4 c = .bool b) : ERep w A ρ n N (e.know N c b) a := by
  cases c with
  | tmp t =>
    have hv : e.v t = .bool b := hc
    refine ⟨fun t' => ?_, fun t' b' hb => ?_, h.size, h.defers⟩
    · simp only [Env.know, Env.put, upd_eq]
      split
      · rename_i hh
        rw [hh.1, ← hv]
        exact h.val t
      · exact h.val t'
    · simp only [Env.know, Env.put, upd_eq] at hb ⊢
      split at hb
      · rw [if_pos (by assumption)]; cases hb; rfl
      · rw [if_neg (by assumption)]; exact h.kn t' b' hb
  | _ => exact h

theorem awp_sound {P : Program} {N : Nat} {hint} (hm : P.follows .mixedOrders = true) : ∀ (c : Code) {e : Env} {H : Heap} {K : Post} {w A ρ} {a : Act}, HR w A ρ H → ERep w A ρ H.length N e a → awp P N hint c e H K →
    c.wp P (PostW N w A ρ H a (asg c) K) a w := by
  intro c
  induction c with
  | skip => intro e H K w A ρ a h he hK; exact wp_skip ⟨_, _, _, _, hK, After.refl h he⟩
  | label l => intro e H K w A ρ a h he hK; exact wp_label ⟨_, _, _, _, hK, After.refl h he⟩
  | exit id => intro e H K w A ρ a h he hK; exact wp_exit ⟨_, _, _, _, hK, After.refl h he⟩
  | ret => intro e H K w A ρ a h he hK; exact wp_ret ⟨_, _, _, _, hK, After.refl h he⟩
  | region id ops d =>
    intro e H K w A ρ a h he hK
    cases d with
    | false =>
      refine wp_region (aOps_sound _ h he hK fun e' H' a' w' A' ρ' hk haf => ⟨_, _, _, _, hk, haf⟩)
    | true =>
      refine wp_region_any hm ?_
      obtain ⟨h', x'⟩ := h.same (w' := { w with drawn := w.drawn + 1 }) ⟨rfl, rfl, rfl, Nat.le_refl _, fun _ _ _ => rfl⟩
      refine aAnyG_sound _ h' (he.ext x') (aDrw_all _ (by simp) hK) fun e' H' a' w' A' ρ' hk haf => ⟨_, _, _, _, hk, ⟨haf.hr, haf.er, x'.trans haf.ext, haf.same⟩⟩
  | seq x y ihx ihy =>
    intro e H K w A ρ a h he hK
    refine wp_seq ?_
    simp only [awp] at hK
    split at hK
    · refine wp_mono (ihx h he hK) fun ex a' w' hq => ?_
      obtain ⟨e', H', A', ρ', hk, haf⟩ := hq
      cases ex with
      | normal =>
        refine wp_mono (ihy haf.hr haf.er hk) fun ex2 a2 w2 hq2 => ?_
        obtain ⟨e2, H2, A2, ρ2, hk2, haf2⟩ := hq2
        exact ⟨e2, H2, A2, ρ2, hk2, (haf.mono fun t ht => List.mem_append_left _ ht).trans (haf2.mono fun t ht => List.mem_append_right _ ht)⟩
      | _ => exact ⟨e', H', A', ρ', hk, haf.mono fun t ht => List.mem_append_left _ ht⟩
    · rename_i live hj
      obtain ⟨J, hJ, hK⟩ := hK
      refine wp_mono (ihx h he hK) fun ex a' w' hq => ?_
      obtain ⟨e', H', A', ρ', hk, haf⟩ := hq
      cases ex with
      | normal =>
        obtain ⟨A2, ρ2, vs', Hs, k1, k2, k3, k4, k5⟩ := pWk_sound haf.hr haf.ext hk
        have her : ERep w' A2 ρ2 Hs.length N (loopEnv N e (asg x) live vs') a' := loopEnv_er he k3 haf.same haf.er.size haf.er.defers k4 k5 (fun k t v hk hv => by
          rw [List.getElem?_map, hk] at hv
          cases hv
          exact haf.er.val t) (by simp)
        refine wp_mono (ihy k2 her (hJ _ _ k1)) fun ex2 a2 w2 hq2 => ?_
        obtain ⟨e2, H2, A3, ρ3, hk2, haf2⟩ := hq2
        exact ⟨e2, H2, A3, ρ3, hk2, haf2.hr, haf2.er, k3.trans haf2.ext, fun t ht => (haf2.same t fun hh => ht (List.mem_append_right _ hh)).trans (haf.same t fun hh => ht (List.mem_append_left _ hh))⟩
      | _ => exact ⟨e', H', A', ρ', hk, haf.mono fun t ht => List.mem_append_left _ ht⟩
  | cond c x y ihx ihy =>
    intro e H K w A ρ a h he hK
    simp only [awp] at hK
    have hev := evalE_rep (P := P) he 4 c
    have left : ∀ {e}, ERep w A ρ H.length N e a → awp P N hint x e H K → x.wp P (PostW N w A ρ H a (asg (.cond c x y)) K) a w := fun he hK =>
      wp_mono (ihx h he hK) fun ex a' w' ⟨e', H', A', ρ', hk, haf⟩ => ⟨e', H', A', ρ', hk, haf.mono fun t ht => List.mem_append_left _ ht⟩
    have right : ∀ {e}, ERep w A ρ H.length N e a → awp P N hint y e H K → y.wp P (PostW N w A ρ H a (asg (.cond c x y)) K) a w := fun he hK =>
      wp_mono (ihy h he hK) fun ex a' w' ⟨e', H', A', ρ', hk, haf⟩ => ⟨e', H', A', ρ', hk, haf.mono fun t ht => List.mem_append_right _ ht⟩
    split at hK
    · rename_i hk
      rw [knownOf_sound he hk] at hev
      exact wp_cond_true hev.bool_inv (left he hK)
    · rename_i hk
      rw [knownOf_sound he hk] at hev
      exact wp_cond_false hev.bool_inv (right he hK)
    · split at hK
      · rename_i b hb
        rw [hb] at hev
        refine wp_cond_split hev.bool_inv (fun ht => ?_) (fun hf => ?_)
        · subst ht
          exact left (know_er he hb) (hK.1 rfl)
        · subst hf
          exact right (know_er he hb) (hK.2 rfl)
      · exact hK.elim
  | block id c ih =>
    intro e H K w A ρ a h he hK
    refine wp_block (wp_mono (ih h he hK) fun ex a' w' hq => ?_)
    obtain ⟨e', H', A', ρ', hk, haf⟩ := hq
    cases ex with
    | exit id' =>
      simp only [blockK] at hk
      simp only [Exit.inBlock]
      split at hk
      · rename_i hb
        rw [if_pos (Nat.eq_of_beq_eq_true hb)]
        exact ⟨e', H', A', ρ', hk, haf⟩
      · rename_i hb
        rw [if_neg (fun hh => by subst hh; simp at hb)]
        exact ⟨e', H', A', ρ', hk, haf⟩
    | _ => exact ⟨e', H', A', ρ', hk, haf⟩
  | loop c ih =>
    intro e H K w A ρ a h he hK
    obtain ⟨I, μ, h0, hr⟩ := hK
    let Inv : (List V × Heap) → Act → World → Prop := fun x a' w' => ∃ A' ρ', I x.1 x.2 ∧ HR w' A' ρ' x.2 ∧ ERep w' A' ρ' x.2.length N (loopEnv N e (asg c) (hintOf hint c) x.1) a' ∧ Ext w A ρ H w' A' ρ' x.2 ∧ ∀ t, t ∉ asg c → a'.tmps.getD t Go.undef = a.tmps.getD t Go.undef
    obtain ⟨A1, ρ1, vs1, Hs1, k1, k2, k3, k4, k5⟩ := pWk_sound h (Ext.refl _ _ _ _) h0
    refine wp_loop_ix Inv (fun x => μ x.1 x.2) (vs1, Hs1) ⟨A1, ρ1, k1, k2, loopEnv_er he k3 (fun _ _ => rfl) he.size he.defers k4 k5 (fun k t v hk hv => by
        rw [List.getElem?_map, hk] at hv
        cases hv
        exact he.val t) (by simp), k3, fun _ _ => rfl⟩ ?_
    rintro ⟨xs, H1⟩ a1 w1 ⟨A', ρ', i1, i2, i3, i4, i5⟩
    refine wp_mono (ih i2 i3 (hr xs H1 i1)) fun ex a2 w2 hq => ?_
    obtain ⟨e2, H2, A2, ρ2, hk, haf⟩ := hq
    have hsame : ∀ t, t ∉ asg c → a2.tmps.getD t Go.undef = a.tmps.getD t Go.undef := fun t ht => (haf.same t ht).trans (i5 t ht)
    cases ex with
    | normal =>
      obtain ⟨A3, ρ3, vs3, Hs3, q1, q2, q3, q4, q5⟩ := pWk_sound haf.hr (i4.trans haf.ext) hk
      refine ⟨(vs3, Hs3), ⟨A3, ρ3, q1.1, q2, loopEnv_er he q3 hsame haf.er.size haf.er.defers q4 q5 (fun k t v hk hv => by
        rw [List.getElem?_map, hk] at hv
        cases hv
        exact haf.er.val t) (by simp), q3, hsame⟩, q1.2⟩
    | _ => exact ⟨e2, H2, A2, ρ2, hk, haf.hr, haf.er, i4.trans haf.ext, hsame⟩
  | rangeFunc f ps as b => intro e H K w A ρ a h he hK; exact hK.elim
  | scope b => intro e H K w A ρ a h he hK; exact hK.elim
  | goto l => intro e H K w A ρ a h he hK; exact hK.elim
  | refuse s => intro e H K w A ρ a h he hK; exact hK.elim

end Go.Sim

namespace Go.Sim

/-! ## 14. A function's contract from its code -/
def nthV : List V → Nat → V
  | [], _ => .tup []
  | v :: _, 0 => v
  | _ :: r, n + 1 => nthV r n

def argEnv (args : List V) : Env := ⟨nthV args, fun _ => none⟩

def resK (P : Program) : List ResultVar → List V → Env → Heap → (List V → Heap → Prop) → Prop
  | [], acc, _, H, K => K acc.reverse H
  | .tmp t :: r, acc, e, H, K => resK P r (e.v t :: acc) e H K
  | .cell a t :: r, acc, e, H, K => match loadT P t with
    | some (ag, sz) => pLoad ag sz (e.v a) H (fun v => resK P r (v :: acc) e H K)
    | none => False

def tupV : List V → V
  | [v] => v
  | vs => .tup vs

def retK (P : Program) (n0 : Nat) (rs : List ResultVar) (Q : V → Heap → Prop) : Post
  | .ret, e, H => resK P rs [] e H (fun vs H' => pWk n0 [tupV vs] H' (fun ws Hs => Q (nthV ws 0) Hs))
  | .normal, e, H => resK P rs [] e H (fun vs H' => pWk n0 [tupV vs] H' (fun ws Hs => Q (nthV ws 0) Hs))
  | _, _, _ => False

def resOne (_P : Program) (tmps : Array Value) : ResultVar → Sem Value
  | .tmp t => pure (tmps.getD t Go.undef)
  | .cell a t => do loadVar t (← asAddr (tmps.getD a Go.undef))

theorem run_results {P : Program} {fn : Func} {rs : List ResultVar} (h : fn.results = rs.toArray) {tmps : Array Value} {w w' : World} {us : List Value} (hr : (rs.mapM (resOne P tmps)).run P w = .ok us w') :
    (results fn tmps).run P w = .ok (match us with | [u] => u | us => .tuple us.toArray) w' := by
  have hone : (fun x : ResultVar => (match x with
      | .tmp t => pure (tmps.getD t Go.undef)
      | .cell a t => do loadVar t (← asAddr (tmps.getD a Go.undef)) : Sem Value)) = resOne P tmps := by
    funext x; cases x <;> rfl
  unfold results
  rw [h]
  simp only [List.mapM_toArray]
  have e : (do
      let vs ← List.toArray <$> rs.mapM (fun x : ResultVar => (match x with
        | .tmp t => pure (tmps.getD t Go.undef)
        | .cell a t => do loadVar t (← asAddr (tmps.getD a Go.undef)) : Sem Value))
      pure (if h : vs.size = 1 then vs[0] else Value.tuple vs) : Sem Value) = (do
      let vs ← rs.mapM (resOne P tmps)
      pure (if h : vs.toArray.size = 1 then vs.toArray[0] else Value.tuple vs.toArray)) := by
    rw [hone]; simp
  refine (congrArg (fun s => Sem.run P s w) e).trans ?_
  simp only [Sem.run_bind, hr, Result.andThen, Sem.run_pure]
  congr 1
  match us with
  | [] => rfl
  | [u] => rfl
  | _ :: _ :: _ => simp

theorem resK_sound {P : Program} {N : Nat} : ∀ (rs : List ResultVar) (acc : List V) {e : Env} {H : Heap} {K : List V → Heap → Prop} {w A ρ} {a : Act}, HR w A ρ H → ERep w A ρ H.length N e a → resK P rs acc e H K →
    ∃ us vs, (rs.mapM (resOne P a.tmps)).run P w = .ok us w ∧ K (acc.reverse ++ vs) H ∧ us.length = vs.length ∧ ∀ (i : Nat) v u, vs[i]? = some v → us[i]? = some u → Rep w A ρ H.length v u
  | [], acc, e, H, K, w, A, ρ, a, h, he, hK => ⟨[], [], by simp, by simpa [resK] using hK, rfl, fun i v u hv => by simp at hv⟩
  | .tmp t :: r, acc, e, H, K, w, A, ρ, a, h, he, hK => by
    obtain ⟨us, vs, h1, h2, h5, h6⟩ := resK_sound r (e.v t :: acc) h he hK
    refine ⟨a.tmps.getD t Go.undef :: us, e.v t :: vs, ?_, by simpa using h2, by simp [h5], fun i v u hv hu => ?_⟩
    · simp only [List.mapM_cons, resOne, Sem.run_bind, Sem.run_pure, Result.andThen, h1]
    · cases i with
      | zero => simp only [List.getElem?_cons_zero, Option.some.injEq] at hv hu; subst hv; subst hu; exact he.val t
      | succ i => exact h6 i v u (by simpa using hv) (by simpa using hu)
  | .cell b t :: r, acc, e, H, K, w, A, ρ, a, h, he, hK => by
    simp only [resK] at hK
    split at hK
    · rename_i ag sz hl
      obtain ⟨d, i, g1, g2, g3, g4⟩ := loadT_some hl
      obtain ⟨u, v, r1, r2, r4⟩ := sound_load0 (P := P) h g1 g3 g2 g4 (he.val b) (K := fun v H' => resK P r (v :: acc) e H' K) hK
      obtain ⟨us, vs, h1, h2, h5, h6⟩ := resK_sound r (v :: acc) h he r2
      have r1' : (do loadVar t (← asAddr (a.tmps.getD b Go.undef)) : Sem Value).run P w = .ok u w := by
        generalize a.tmps.getD b Go.undef = ua at r1 ⊢
        cases ua <;> first
          | (simp [Instr.loadAt, Instr.sureAddr] at r1; done)
          | skip
        rename_i oa
        cases oa with
        | none => simp [Instr.loadAt, Instr.sureAddr] at r1
        | some ad => simpa [Instr.loadAt, Instr.sureAddr, asAddr] using r1
      refine ⟨u :: us, v :: vs, ?_, by simpa using h2, by simp [h5], fun i v u hv hu => ?_⟩
      · rw [List.mapM_cons, Sem.run_bind]
        have r2' : (resOne P a.tmps (.cell b t)).run P w = .ok u w := r1'
        rw [r2', Result.andThen_ok, Sem.run_bind, h1]
        rfl
      · cases i with
        | zero => simp only [List.getElem?_cons_zero, Option.some.injEq] at hv hu; subst hv; subst hu; exact r4
        | succ i => exact h6 i v u (by simpa using hv) (by simpa using hu)
    · exact hK.elim

theorem nthV_rep {w A ρ n} : ∀ (args : List V) (us : List Value) (t m : Nat), us.length = args.length → (∀ (i : Nat) v u, args[i]? = some v → us[i]? = some u → Rep w A ρ n v u) → Rep w A ρ n (nthV args t) ((us ++ List.replicate m Go.undef).getD t Go.undef)
  | [], us, t, m, hl, h => by
    have : us = [] := by simpa using hl
    subst this
    have : ((([] : List Value) ++ List.replicate m Go.undef).getD t Go.undef) = Go.undef := by
      simp only [List.nil_append, List.getD_eq_getElem?_getD, List.getElem?_replicate]
      split <;> rfl
    rw [this]
    exact Rep.unit
  | v :: args, [], t, m, hl, h => by simp at hl
  | v :: args, u :: us, 0, m, hl, h => h 0 v u rfl rfl
  | v :: args, u :: us, t + 1, m, hl, h => by
    have := nthV_rep args us t m (by simpa using hl) (fun i v u hv hu => h (i + 1) v u (by simpa using hv) (by simpa using hu))
    simpa [nthV] using this

theorem Ct_of_awp {P : Program} (hm : P.follows .mixedOrders = true) {k : FuncId} {fn : Func} {c : Code} {rs : List ResultVar} {N : Nat} {hint : Nat → Option (List Nat)} (hf : P.funcs[k]? = some fn) (hcal : callable P k = true) (hb : fn.body = some c) (hrs : fn.results = rs.toArray) (hN : fn.ntmps = N)
    {args : List V} {H : Heap} {Q : V → Heap → Prop} (hl : args.length ≤ N) (h : awp P N hint c (argEnv args) H (retK P H.length rs Q)) : Ct P k args H Q := by
  refine ⟨hcal, fun w A ρ us hr hs hrep => calls_of_wp hf hb ?_⟩
  subst hN
  let a : Act := { tmps := us ++ Array.replicate (fn.ntmps - us.size) Go.undef, defers := [] }
  have he : ERep w A ρ H.length fn.ntmps (argEnv args) a := by
    refine ⟨fun t => ?_, fun t b hb => (by cases hb), by simp [a, hs]; omega, rfl⟩
    have := nthV_rep (w := w) (A := A) (ρ := ρ) (n := H.length) args us.toList t (fn.ntmps - us.size) (by simpa using hs) (fun i v u hv hu => hrep i v u hv (by simpa using hu))
    have e : a.tmps.getD t Go.undef = (us.toList ++ List.replicate (fn.ntmps - us.size) Go.undef).getD t Go.undef := by
      simp only [a, Array.getD_eq_getD_getElem?, List.getD_eq_getElem?_getD]
      rw [← Array.getElem?_toList]
      simp
    rw [e]
    exact this
  refine wp_mono (awp_sound hm c hr he h) fun ex a' w' hq => ?_
  obtain ⟨e', H', A', ρ', hk, haf⟩ := hq
  have fin : ∀ {e' H' A' ρ'}, After fn.ntmps w A ρ H a (asg c) e' H' a' w' A' ρ' → resK P rs [] e' H' (fun vs H' => pWk H.length [tupV vs] H' (fun ws Hs => Q (nthV ws 0) Hs)) →
      a'.defers = [] ∧ ∃ v, (results fn a'.tmps).run P w' = .ok v w' ∧ ∃ u v' H2 A2 ρ2, Ending.returned v = .returned u ∧ Q v' H2 ∧ HR w' A2 ρ2 H2 ∧ Rep w' A2 ρ2 H2.length v' u ∧ Ext w A ρ H w' A2 ρ2 H2 := by
    intro e' H' A' ρ' haf hk
    obtain ⟨vus, vs, h1, h2, h5, h6⟩ := resK_sound rs [] haf.hr haf.er hk
    refine ⟨haf.er.defers, _, run_results hrs h1, ?_⟩
    obtain ⟨A2, ρ2, vs', Hs, k1, k2, k3, k4, k5⟩ := pWk_sound haf.hr haf.ext h2
    refine ⟨_, _, Hs, A2, ρ2, rfl, k1, k2, ?_, k3⟩
    have h0 : vs'[0]? = some (nthV vs' 0) := by
      cases vs' with
      | nil => simp at k4
      | cons v r => rfl
    refine k5 0 _ _ _ rfl h0 ?_
    simp only [List.reverse_nil, List.nil_append]
    match vs, vus, h5, h6 with
    | [], [], _, _ => exact .tup rfl fun i c u hc => by simp at hc
    | [v], [u], _, h6 => exact h6 0 v u rfl rfl
    | v1 :: v2 :: vs, u1 :: u2 :: us, h5, h6 => exact .tup (by simpa using h5) fun i c u hc hu => h6 i c u hc (by simpa using hu)
  cases ex with
  | ret => exact fin haf hk
  | normal => exact fin haf hk
  | _ => exact hk.elim

end Go.Sim

namespace Go.Sim

/-! ## 15. Words for the written-out texts -/
def cBool (v : V) (F : Bool → Prop) : Prop := match v with
  | .bool b => F b
  | _ => False
def cIf (v : V) (A B : Prop) : Prop := match v with
  | .bool b => (b = true → A) ∧ (b = false → B)
  | _ => False
def pNot (v : V) (K : V → Prop) : Prop := match v with
  | .bool b => K (.bool (!b))
  | _ => False
def pNeg (v : V) (K : V → Prop) : Prop := match v with
  | .int k n => K (.int k (k.wrap (0 - n)))
  | _ => False
def pPick (c a b : V) (K : V → Prop) : Prop := match c with
  | .bool t => K (pickV t a b)
  | _ => False
def pTup (v : V) (i : Nat) (K : V → Prop) : Prop := match v with
  | .tup vs => match vs[i]? with
    | some v => K v
    | none => False
  | _ => False
def pField (v : V) (ag : Bool) (sz off : Nat) (K : V → Prop) : Prop := match v with
  | .agg cs => match rowGet ag sz (.agg cs) off with
    | some v => K v
    | none => False
  | _ => False
def pConvInt (k : IntKind) (v : V) (K : V → Prop) : Prop := match v with
  | .int _ n => K (.int k (k.wrap n))
  | _ => False
def pAt (s i : V) (K : V → Prop) : Prop := match s, i with
  | .str s, .int _ n => 0 ≤ n ∧ (match s[n.toNat]? with
    | some b => K (.int .u8 b.toNat)
    | none => False)
  | _, _ => False
def pMin (x y : V) (K : V → Prop) : Prop := match x, y with
  | .int k a, .int _ b => K (.int k (if b < a then b else a))
  | _, _ => False
def pMax (x y : V) (K : V → Prop) : Prop := match x, y with
  | .int k a, .int _ b => K (.int k (if b > a then b else a))
  | _, _ => False
def pCallV (P : Program) (f : V) (args : List V) (H : Heap) (K : V → Heap → Prop) : Prop := match f with
  | .fn k caps => pCall P k (args ++ caps) H K
  | _ => False

def pSt (sz : Nat) (p v : V) (H : Heap) (K : Heap → Prop) : Prop := pFz (wantFz H p) H [v] (fun vs H' => match vs with
  | [v] => pStore sz p v H' K
  | _ => False)
def pMk (e : TypeId) (s bytes : Nat) (z l c : V) (H : Heap) (K : V → Heap → Prop) : Prop := z.cells.length = s ∧ 0 < s ∧ 0 < bytes ∧ pMakeSlice e s bytes z l c H K
def pBs (e : TypeId) (s : Nat) (z : V) (len : Nat) (is : List Nat) (vs : List V) (H : Heap) (K : V → Heap → Prop) : Prop :=
  z.cells.length = s ∧ 0 < s ∧ len * s ≤ 16777216 ∧ pFz true H vs (fun vs H' => pBuildSlice e s z len (is.zip vs) H' K)
def pFa (off sz : Nat) (p : V) (K : V → Prop) : Prop := sz ≠ 0 ∧ pFieldAddr off p K
def pLn (isS : Bool) (x : V) (K : V → Prop) : Prop := isStr x = isS ∧ pLen x K
def pAp (t e : TypeId) (s bytes : Nat) (z x y : V) (H : Heap) (K : V → Heap → Prop) : Prop := t = t ∧ z.cells.length = s ∧ 0 < s ∧ 0 < bytes ∧ pAppend e s bytes x y H K
def pCl (s : Nat) (z x : V) (H : Heap) (K : V → Heap → Prop) : Prop := z.cells.length = s ∧ 0 < s ∧ pClear s x H K
def pSc (isS : Bool) (s : Nat) (x : V) (lo hi : Option V) (H : Heap) (K : V → Prop) : Prop := isStr x = isS ∧ pSlice s x lo hi H K
def pConvX (P : Program) (src dst : TypeId) (v : V) (H : Heap) (K : V → Prop) : Prop := match P.underlying src, P.underlying dst, v with
    | some _, some (.int k), .int _ n => K (.int k (k.wrap n))
    | some .string, some .string, .str s => K (.str s)
    | some (.slice e), some .string, v => match P.underlying e, elems H v with
      | some (.int .u8), some (s, xs) => s = 1 ∧ (match bytesV xs with
        | some ns => K (.str (bytesOf ns))
        | none => False)
      | _, _ => False
    | _, _, _ => False
def pConvBytes (v : V) (H : Heap) (K : V → Prop) : Prop := match elems H v with
  | some (s, xs) => s = 1 ∧ (match bytesV xs with
    | some ns => K (.str (bytesOf ns))
    | none => False)
  | none => False

end Go.Sim

namespace Go.Sim

def bodyOf (fn : Func) : Code := fn.body.getD .skip

def okFn (P : Program) (k : FuncId) (fn : Func) (n : Nat) : Bool :=
  callable P k && fn.body.isSome && Nat.ble n fn.ntmps

theorem Ct_of_text {P : Program} {k : FuncId} {fn : Func} (hint : Nat → Option (List Nat)) (hm : P.follows .mixedOrders = true) (hf : P.funcs[k]? = some fn)
    {args : List V} (ho : okFn P k fn args.length = true) {H : Heap} {Q : V → Heap → Prop} {T : Prop} (he : T = awp P fn.ntmps hint (bodyOf fn) (argEnv args) H (retK P H.length fn.results.toList Q)) (h : T) : Ct P k args H Q := by
  simp only [okFn, Bool.and_eq_true] at ho
  obtain ⟨⟨h1, h2⟩, h3⟩ := ho
  obtain ⟨c, hc⟩ := Option.isSome_iff_exists.1 h2
  have hb : fn.body = some (bodyOf fn) := by rw [bodyOf, hc]; rfl
  exact Ct_of_awp hm hf h1 hb (by simp) rfl (Nat.le_of_ble_eq_true h3) (he ▸ h)

end Go.Sim

namespace Go.Sim


mutual
theorem ren_id {n : Nat} {f : Nat → RT} (hf : ∀ i, i < n → f i = .to i) : ∀ v : V, v.wf n = true → v.ren f = v
  | .agg cs, h => by rw [V.wf] at h; rw [V.ren, rens_id hf cs h]
  | .tup cs, h => by rw [V.wf] at h; rw [V.ren, rens_id hf cs h]
  | .iface t v, h => by rw [V.wf] at h; rw [V.ren, ren_id hf v h]
  | .fn k cs, h => by rw [V.wf] at h; rw [V.ren, rens_id hf cs h]
  | .ref id off len, h => by simp only [V.wf, decide_eq_true_eq] at h; rw [V.ren, hf id h]
  | .ptr id i j, h => by simp only [V.wf, decide_eq_true_eq] at h; rw [V.ren, hf id h]
  | .int .., _ => rfl
  | .bool .., _ => rfl
  | .str .., _ => rfl
  | .sl .., _ => rfl
  | .nil, _ => rfl
  | .nili, _ => rfl
  | .nilf, _ => rfl
  | .loc .., _ => rfl
  | .undef, _ => rfl
theorem rens_id {n : Nat} {f : Nat → RT} (hf : ∀ i, i < n → f i = .to i) : ∀ l : List V, V.wfs n l = true → V.rens f l = l
  | [], _ => rfl
  | v :: r, h => by
    simp only [V.wfs, Bool.and_eq_true] at h
    rw [V.rens, ren_id hf v h.1, rens_id hf r h.2]
end

def idOrder (n : Nat) : List RT := (List.range n).map RT.to
theorem idOrder_get {n i : Nat} (h : i < n) : (idOrder n)[i]? = some (.to i) := by simp [idOrder, h]

/-- The first blocks stay, what came behind them is forgotten. -/
theorem pWk_pre {vs : List V} {H1 H2 : Heap} {K : List V → Heap → Prop} (hv : V.wfs H1.length vs = true) (hb : H1.all (Blk.wf H1.length) = true) (hK : K vs H1) : pWk H1.length vs (H1 ++ H2) K := by
  have hlen : (idOrder H1.length).length = H1.length := by simp [idOrder]
  have hf : ∀ i, i < H1.length → toF (idOrder H1.length) i = .to i := fun i hi => toF_some (idOrder_get hi)
  refine ⟨[], [], idOrder H1.length, vs, H1, ⟨hlen.symm, fun i k hk => ?_, fun i1 i2 j hne h1 h2 => ?_, fun h => (by cases h), fun _ id hid => by cases hid⟩, by omega, fun i hi => idOrder_get hi, ?_, by rw [hlen]; exact hv, hK⟩
  · have hi := (List.getElem?_eq_some_iff.1 hk).1
    refine .inr (.inl ⟨i, k, idOrder_get hi, ?_, ?_, ?_⟩)
    · rw [frzL, List.getElem?_append_left hi]; exact hk
    · have hw := List.all_eq_true.1 hb k (List.mem_of_getElem? hk)
      cases k with
      | box e v => simp only [Blk.view, Blk.ren]; rw [view_none vwOf_nil, ren_id hf v hw]
      | _ => rfl
    · rw [hlen]; exact List.all_eq_true.1 hb k (List.mem_of_getElem? hk)
  · have e1 : ∀ i, (idOrder H1.length)[i]? = some (.to j) → i = j := by
      intro i h
      have hi := (List.getElem?_eq_some_iff.1 h).1
      rw [idOrder_get (by omega)] at h
      cases h; rfl
    exact absurd ((e1 _ h1).trans (e1 _ h2).symm) hne
  · rw [frzL, map_view_nil, ← V.rens_map, rens_id hf vs hv]

theorem pWk_same {vs : List V} {H : Heap} {K : List V → Heap → Prop} (hv : V.wfs H.length vs = true) (hb : H.all (Blk.wf H.length) = true) (hK : K vs H) : pWk H.length vs H K := by
  have := pWk_pre (H2 := []) hv hb hK
  rwa [List.append_nil] at this

/-- All is forgotten. -/
theorem pWk_drop {vs : List V} {H : Heap} {K : List V → Heap → Prop} (hs : V.statics vs = true) (hK : K vs []) : pWk 0 vs H K :=
  pWk_all [] (map_view_nil vs) hs hK

theorem wrap64 {n : Int} (h1 : -9223372036854775808 ≤ n) (h2 : n < 9223372036854775808) : IntKind.i64.wrap n = n := by
  have e : IntKind.i64.wrap n = (if n % 18446744073709551616 ≥ 9223372036854775808 then n % 18446744073709551616 - 18446744073709551616 else n % 18446744073709551616) := by
    simp [IntKind.wrap, IntKind.bits, IntKind.signed]
  rw [e]
  split <;> omega

end Go.Sim

namespace Go.Sim

theorem sub_none (H : Heap) (fl : List Nat) : Sub false (frzL H fl) fl [] [] :=
  ⟨rfl, fun i k hk => by simp at hk, fun i1 i2 j _ h1 => by simp at h1, fun h => (by cases h), fun _ id hid e s rows hk => frzL_not fl H hid e s rows hk⟩

theorem mergeH_none (H : Heap) : mergeH H [] [] = H := by simp [mergeH, setL]
theorem mergeH_new (H H' : Heap) : mergeH H [] H' = H ++ H'.map (Blk.ren (backF [] H.length)) := by simp [mergeH, setL]

/-- A function that only looks at immutable values and gives one. -/
def Pu (P : Program) (k : FuncId) (args : List V) (r : V) : Prop := Ct P k args [] (fun v H => v = r ∧ H = [])

theorem pCall_pure {P : Program} {k : FuncId} {args args' : List V} {H : Heap} {K : V → Heap → Prop} (fl : List Nat) (hv : args.map (·.view (vwOf (frzL H fl) fl)) = args') (hs : V.statics args' = true)
    (hct : Ct P k args' [] (fun r H' => H' = [] ∧ r.static = true ∧ K r (frzL H fl))) : pCall P k args H K := by
  refine ⟨fl, false, fl, [], args', [], List.nodup_nil, fun k hk => (by cases hk), sub_none H fl, ?_, statics_wf _ _ hs, hct.mono ?_⟩
  · rw [hv]
    simp only [List.map_nil]
    rw [← V.rens_map, V.rens_static _ _ hs]
  · rintro r H' ⟨rfl, hr, hK⟩
    refine ⟨fun h => (by cases h), ?_⟩
    rw [mergeH_none, V.ren_static _ _ hr]
    exact hK

theorem pCall_pu {P : Program} {k : FuncId} {args : List V} {r : V} {H : Heap} {K : V → Heap → Prop} (hs : V.statics args = true) (hr : r.static = true) (hp : Pu P k args r) (hK : K r H) : pCall P k args H K :=
  pCall_pure [] (map_view_nil args) hs (hp.mono fun v H' ⟨h1, h2⟩ => ⟨h2, by rw [h1]; exact hr, by rw [h1]; exact hK⟩)

theorem pCall_pf {P : Program} {k : FuncId} {args args' : List V} {r : V} {H : Heap} {K : V → Heap → Prop} (fl : List Nat) (hv : args.map (·.view (vwOf (frzL H fl) fl)) = args') (hs : V.statics args' = true) (hr : r.static = true) (hp : Pu P k args' r) (hK : K r (frzL H fl)) : pCall P k args H K :=
  pCall_pure fl hv hs (hp.mono fun v H' ⟨h1, h2⟩ => ⟨h2, by rw [h1]; exact hr, by rw [h1]; exact hK⟩)

end Go.Sim

namespace Go.Sim

/-! ## 16. Loops by states -/
theorem least {p : Nat → Prop} (h : ∃ n, p n) : ∃ n, p n ∧ ∀ k, p k → n ≤ k := by
  obtain ⟨n, hn⟩ := h
  induction n using Nat.strongRecOn with
  | ind n ih =>
    by_cases hk : ∃ k, k < n ∧ p k
    · obtain ⟨k, h1, h2⟩ := hk
      exact ih k h1 h2
    · exact ⟨n, hn, fun k hp => Nat.le_of_not_lt fun hlt => hk ⟨k, hlt, hp⟩⟩

def stI {σ : Type} (S : σ → List V × Heap) (Inv : σ → Prop) (ys : List V) (H : Heap) : Prop := ∃ s, Inv s ∧ (S s).1 = ys ∧ (S s).2 = H

theorem stM {σ : Type} (S : σ → List V × Heap) (Inv : σ → Prop) (m : σ → Nat) : ∃ μ : List V → Heap → Nat, ∀ ys H, stI S Inv ys H → ∃ s, Inv s ∧ (S s).1 = ys ∧ (S s).2 = H ∧ m s = μ ys H ∧ ∀ s', Inv s' → (S s').1 = ys → (S s').2 = H → μ ys H ≤ m s' := by
  have key : ∀ q : List V × Heap, ∃ n : Nat, stI S Inv q.1 q.2 → ∃ s, Inv s ∧ (S s).1 = q.1 ∧ (S s).2 = q.2 ∧ m s = n ∧ ∀ s', Inv s' → (S s').1 = q.1 → (S s').2 = q.2 → n ≤ m s' := by
    intro q
    by_cases h : stI S Inv q.1 q.2
    · obtain ⟨s, h1, h2, h3⟩ := h
      obtain ⟨n, ⟨s', g1, g2, g3, g4⟩, hm⟩ := least (p := fun n => ∃ s, Inv s ∧ (S s).1 = q.1 ∧ (S s).2 = q.2 ∧ m s = n) ⟨m s, s, h1, h2, h3, rfl⟩
      exact ⟨n, fun _ => ⟨s', g1, g2, g3, g4, fun s2 k1 k2 k3 => hm _ ⟨s2, k1, k2, k3, rfl⟩⟩⟩
    · exact ⟨0, fun h' => absurd h' h⟩
  exact ⟨fun ys H => Classical.choose (key (ys, H)), fun ys H => Classical.choose_spec (key (ys, H))⟩

/-- A loop whose states are `S s`. -/
theorem loop_st {σ : Type} (S : σ → List V × Heap) (Inv : σ → Prop) (m : σ → Nat)
    {A : (List V → Heap → Prop) → Prop} {B : (List V → Heap → Prop) → (List V → Heap → Nat) → List V → Heap → Prop}
    (h0 : A (stI S Inv))
    (h1 : ∀ (μ : List V → Heap → Nat) (s : σ), Inv s → (∀ s', Inv s' → m s' < m s → stI S Inv (S s').1 (S s').2 ∧ μ (S s').1 (S s').2 < μ (S s).1 (S s).2) → B (stI S Inv) μ (S s).1 (S s).2) :
    ∃ (I : List V → Heap → Prop) (μ : List V → Heap → Nat), A I ∧ ∀ ys H, I ys H → B I μ ys H := by
  obtain ⟨μ, hμ⟩ := stM S Inv m
  refine ⟨stI S Inv, μ, h0, ?_⟩
  intro ys H hI
  obtain ⟨s, g1, g2, g3, g4, g5⟩ := hμ ys H hI
  subst g2; subst g3
  refine h1 μ s g1 fun s' hs' hlt => ⟨⟨s', hs', rfl, rfl⟩, ?_⟩
  obtain ⟨s2, k1, k2, k3, k4, k5⟩ := hμ _ _ ⟨s', hs', rfl, rfl⟩
  have := k5 s' hs' rfl rfl
  omega

/-! ## 17. Leaving blocks behind, computed -/
mutual
def V.inK (keep : List Nat) : V → Bool
  | .agg cs => V.inKs keep cs
  | .tup cs => V.inKs keep cs
  | .iface _ v => v.inK keep
  | .fn _ cs => V.inKs keep cs
  | .ref id _ _ => keep.contains id
  | .ptr id _ _ => keep.contains id
  | _ => true
def V.inKs (keep : List Nat) : List V → Bool
  | [] => true
  | v :: r => v.inK keep && V.inKs keep r
end

def posOf (keep : List Nat) (id : Nat) : Nat := match keep with
  | [] => 0
  | k :: r => match Nat.beq k id with
    | true => 0
    | false => posOf r id + 1
def keepR (keep : List Nat) : Nat → RT := fun id => .to (posOf keep id)

theorem posOf_get : ∀ {keep : List Nat} {id : Nat}, keep.contains id = true → keep[posOf keep id]? = some id
  | [], _, h => by simp at h
  | k :: r, id, h => by
    unfold posOf
    cases hb : Nat.beq k id with
    | true => simp [Nat.eq_of_beq_eq_true hb]
    | false =>
      have hne : k ≠ id := fun e => by subst e; simp at hb
      have : r.contains id = true := by
        simp only [List.contains_cons, Bool.or_eq_true] at h
        rcases h with h | h
        · exact absurd (by simpa using h : id = k).symm hne
        · exact h
      simpa using posOf_get this

theorem toF_keep {keep : List Nat} {id : Nat} (h : keep.contains id = true) : toF (keep.map .to) (posOf keep id) = .to id :=
  toF_some (by rw [List.getElem?_map, posOf_get h]; rfl)
theorem posOf_lt {keep : List Nat} {id : Nat} (h : keep.contains id = true) : posOf keep id < keep.length := (List.getElem?_eq_some_iff.1 (posOf_get h)).1

mutual
theorem keep_back {keep : List Nat} : ∀ v : V, v.inK keep = true → (v.ren (keepR keep)).ren (toF (keep.map .to)) = v ∧ (v.ren (keepR keep)).wf keep.length = true
  | .agg cs, h => by
    rw [V.inK] at h
    obtain ⟨h1, h2⟩ := keeps_back cs h
    exact ⟨by rw [V.ren, V.ren, h1], by rw [V.ren, V.wf, h2]⟩
  | .tup cs, h => by
    rw [V.inK] at h
    obtain ⟨h1, h2⟩ := keeps_back cs h
    exact ⟨by rw [V.ren, V.ren, h1], by rw [V.ren, V.wf, h2]⟩
  | .iface t v, h => by
    rw [V.inK] at h
    obtain ⟨h1, h2⟩ := keep_back v h
    exact ⟨by rw [V.ren, V.ren, h1], by rw [V.ren, V.wf, h2]⟩
  | .fn k cs, h => by
    rw [V.inK] at h
    obtain ⟨h1, h2⟩ := keeps_back cs h
    exact ⟨by rw [V.ren, V.ren, h1], by rw [V.ren, V.wf, h2]⟩
  | .ref id off len, h => by
    rw [V.inK] at h
    refine ⟨?_, ?_⟩
    · simp only [V.ren, keepR, toF_keep h]
    · simp only [V.ren, keepR, V.wf, decide_eq_true_eq]; exact posOf_lt h
  | .ptr id i j, h => by
    rw [V.inK] at h
    refine ⟨?_, ?_⟩
    · simp only [V.ren, keepR, toF_keep h]
    · simp only [V.ren, keepR, V.wf, decide_eq_true_eq]; exact posOf_lt h
  | .int .., _ => ⟨rfl, rfl⟩
  | .bool .., _ => ⟨rfl, rfl⟩
  | .str .., _ => ⟨rfl, rfl⟩
  | .sl .., _ => ⟨rfl, rfl⟩
  | .nil, _ => ⟨rfl, rfl⟩
  | .nili, _ => ⟨rfl, rfl⟩
  | .nilf, _ => ⟨rfl, rfl⟩
  | .loc .., _ => ⟨rfl, rfl⟩
  | .undef, _ => ⟨rfl, rfl⟩
theorem keeps_back {keep : List Nat} : ∀ l : List V, V.inKs keep l = true → V.rens (toF (keep.map .to)) (V.rens (keepR keep) l) = l ∧ V.wfs keep.length (V.rens (keepR keep) l) = true
  | [], _ => ⟨rfl, rfl⟩
  | v :: r, h => by
    rw [V.inKs, Bool.and_eq_true] at h
    obtain ⟨h1, h2⟩ := keep_back v h.1
    obtain ⟨h3, h4⟩ := keeps_back r h.2
    exact ⟨by rw [V.rens, V.rens, h1, h3], by rw [V.rens, V.wfs, h2, h4]; rfl⟩
end

def Blk.inK (keep : List Nat) : Blk → Bool
  | .box _ v => v.inK keep
  | _ => true

def nodupB : List Nat → Bool
  | [] => true
  | a :: r => !(r.contains a) && nodupB r
theorem nodupB_nodup : ∀ {l : List Nat}, nodupB l = true → l.Nodup
  | [], _ => List.nodup_nil
  | a :: r, h => by
    simp only [nodupB, Bool.and_eq_true, Bool.not_eq_true'] at h
    refine List.nodup_cons.2 ⟨fun hm => ?_, nodupB_nodup h.2⟩
    have := List.contains_iff_mem.2 hm
    rw [h.1] at this; cases this

/-- The kept blocks, in their new numbers, with what is shown of `vw`. -/
def heldH (H : Heap) (vw keep : List Nat) : Heap := keep.map fun j => match H[j]? with
  | some k => (k.view (vwOf H vw)).ren (keepR keep)
  | none => .dead

def heldB (H : Heap) (vw keep : List Nat) (vs : List V) : Bool :=
  nodupB keep && keep.all (fun j => match H[j]? with | some k => (k.view (vwOf H vw)).inK keep | none => false) && V.inKs keep (vs.map (·.view (vwOf H vw)))

def preB : Nat → Nat → List Nat → Bool
  | 0, _, _ => true
  | _ + 1, _, [] => false
  | n + 1, i, k :: r => Nat.beq k i && preB n (i + 1) r

theorem preB_get : ∀ {n i : Nat} {l : List Nat}, preB n i l = true → n ≤ l.length ∧ ∀ j, j < n → l[j]? = some (i + j)
  | 0, _, _, _ => ⟨Nat.zero_le _, fun j hj => by omega⟩
  | _ + 1, _, [], h => by cases h
  | n + 1, i, k :: r, h => by
    simp only [preB, Bool.and_eq_true] at h
    obtain ⟨h1, h2⟩ := preB_get h.2
    refine ⟨by simp; omega, fun j hj => ?_⟩
    cases j with
    | zero => simp [Nat.eq_of_beq_eq_true h.1]
    | succ j => simp only [List.getElem?_cons_succ]; rw [h2 j (by omega)]; congr 1; omega

theorem ren_blk_back {keep : List Nat} {k : Blk} (h : k.inK keep = true) : (k.ren (keepR keep)).ren (toF (keep.map .to)) = k ∧ (k.ren (keepR keep)).wf keep.length = true := by
  cases k with
  | box e v =>
    obtain ⟨h1, h2⟩ := keep_back v h
    exact ⟨by simp only [Blk.ren, h1], by simp only [Blk.ren, Blk.wf, h2]⟩
  | _ => exact ⟨rfl, rfl⟩

theorem keep_sub {lend : Bool} {H : Heap} {vw keep : List Nat} {vs : List V} (hb : heldB H vw keep vs = true) (hl : lend = true → vw.all (fun id => !(keep.contains id)) = true)
    (hn : lend = false → ∀ id ∈ vw, ∀ e s rows, H[id]? ≠ some (.sl true e s rows)) : Sub lend H vw (keep.map .to) (heldH H vw keep) := by
  simp only [heldB, Bool.and_eq_true] at hb
  obtain ⟨⟨h1, h2⟩, h3⟩ := hb
  have hnd := nodupB_nodup h1
  have idx : ∀ (i j : Nat), (keep.map RT.to)[i]? = some (.to j) → keep[i]? = some j := by
    intro i j h
    rw [List.getElem?_map] at h
    obtain ⟨j', h4, h5⟩ := Option.map_eq_some_iff.1 h
    cases h5; exact h4
  refine ⟨by simp [heldH], fun i k hk => ?_, fun i1 i2 j hne g1 g2 => ?_, fun hl' id hid i hi => ?_, hn⟩
  · unfold heldH at hk
    rw [List.getElem?_map] at hk
    obtain ⟨j, hj, rfl⟩ := Option.map_eq_some_iff.1 hk
    have hj' := List.all_eq_true.1 h2 j (List.mem_of_getElem? hj)
    split at hj'
    · rename_i k' hk'
      refine .inr (.inl ⟨j, k', by rw [List.getElem?_map, hj]; rfl, hk', ?_, ?_⟩)
      · exact (ren_blk_back hj').1.symm
      · rw [List.length_map]; exact (ren_blk_back hj').2
    · cases hj'
  · have e1 := idx _ _ g1
    have e2 := idx _ _ g2
    have l1 := (List.getElem?_eq_some_iff.1 e1).1
    exact absurd ((List.getElem?_inj l1 hnd).1 (e1.trans e2.symm)) hne
  · have := List.all_eq_true.1 (hl hl') id hid
    rw [List.contains_iff_mem.2 (List.mem_of_getElem? (idx _ _ hi))] at this
    cases this

/-- The blocks `keep` stay, renumbered; the blocks `fl` are given up to the immutable memory. -/
theorem pWk_keep {n0 : Nat} {vs : List V} {H : Heap} {K : List V → Heap → Prop} (fl keep : List Nat) {vs' : List V} {Hs : Heap}
    (hv : (vs.map (·.view (vwOf (frzL H fl) fl))).map (·.ren (keepR keep)) = vs') (hH : heldH (frzL H fl) fl keep = Hs)
    (hb : (heldB (frzL H fl) fl keep vs && preB n0 0 keep) = true) (hK : K vs' Hs) : pWk n0 vs H K := by
  rw [Bool.and_eq_true] at hb
  obtain ⟨hb, hp⟩ := hb
  obtain ⟨p1, p2⟩ := preB_get hp
  subst hH; subst hv
  refine ⟨fl, fl, keep.map .to, _, _, keep_sub hb (fun h => by cases h) (fun _ id hid e s rows hk => frzL_not fl H hid e s rows hk), by simpa using p1, fun i hi => ?_, ?_, ?_, hK⟩
  · rw [List.getElem?_map, p2 i hi]; simp
  all_goals
    simp only [heldB, Bool.and_eq_true] at hb
    have := keeps_back _ hb.2
  · rw [V.rens_map, V.rens_map] at this
    exact this.1.symm
  · rw [List.length_map, ← V.rens_map]; exact this.2

/-- A call: the blocks `fl` are given up first, of `vw` the callee sees the rows, `ids` it gets. -/
theorem pCall_use {P : Program} {k : FuncId} {args : List V} {H : Heap} {K : V → Heap → Prop} (lend : Bool) (fl vw ids : List Nat) {args' : List V} {Hs : Heap}
    (hv : (args.map (·.view (vwOf (frzL H fl) vw))).map (·.ren (keepR ids)) = args') (hH : heldH (frzL H fl) vw ids = Hs)
    (hb : (heldB (frzL H fl) vw ids args && Hs.all (fun k => match k with | .dead => false | _ => true) &&
      (match lend with
      | true => vw.all (fun id => !(ids.contains id))
      | false => vw.all (fun id => match (frzL H fl)[id]? with | some (.sl true _ _ _) => false | _ => true))) = true)
    (hct : Ct P k args' Hs fun r H' => (lend = true → r.flat = true ∧ ∀ k ∈ H', k.flat = true) ∧ K (r.ren (backF ids H.length)) (mergeH (frzL H fl) ids H')) : pCall P k args H K := by
  simp only [Bool.and_eq_true] at hb
  obtain ⟨⟨hb, hd⟩, hl⟩ := hb
  subst hH; subst hv
  have hb' := hb
  simp only [heldB, Bool.and_eq_true] at hb'
  have hk := keeps_back _ hb'.2
  refine ⟨fl, lend, vw, ids, _, _, nodupB_nodup hb'.1.1, fun k hk' e => ?_, keep_sub hb (fun h => by subst h; exact hl) (fun h id hid e s rows he => ?_), ?_, ?_, hct⟩
  · have := List.all_eq_true.1 hd k hk'
    subst e; cases this
  · subst h
    have := List.all_eq_true.1 hl id hid
    rw [he] at this; cases this
  · rw [V.rens_map, V.rens_map] at hk
    exact hk.1.symm
  · rw [← V.rens_map]; exact hk.2

/-! ## 18. Results handed back as immutable values -/
theorem nil_view {v : V} {H : Heap} : v.view (vwOf H []) = v := view_none vwOf_nil v

end Go.Sim

namespace Go.Sim

/-! ## 19. The words, run by simp -/
theorem pBox_cg {e v v' H H'} {K : V → Heap → Prop} (h1 : v = v') (h2 : H = H') : pBox e v H K = pBox e v' H' K := by subst h1; subst h2; rfl
theorem pLoad_cg {ag sz p p' H H'} {K : V → Prop} (h1 : p = p') (h2 : H = H') : pLoad ag sz p H K = pLoad ag sz p' H' K := by subst h1; subst h2; rfl
theorem pStore_cg {sz p p' v v' H H'} {K : Heap → Prop} (h1 : p = p') (h2 : v = v') (h3 : H = H') : pStore sz p v H K = pStore sz p' v' H' K := by subst h1; subst h2; subst h3; rfl
theorem pSt_cg {sz p p' v v' H H'} {K : Heap → Prop} (h1 : p = p') (h2 : v = v') (h3 : H = H') : pSt sz p v H K = pSt sz p' v' H' K := by subst h1; subst h2; subst h3; rfl
theorem pFz_cg {b b' H H' vs vs'} {K : List V → Heap → Prop} (h0 : b = b') (h1 : H = H') (h2 : vs = vs') : pFz b H vs K = pFz b' H' vs' K := by subst h0; subst h1; subst h2; rfl
theorem pBin_cg {ek op x x' y y' H H'} {K : V → Prop} (h1 : x = x') (h2 : y = y') (h3 : H = H') : pBin ek op x y H K = pBin ek op x' y' H' K := by subst h1; subst h2; subst h3; rfl
theorem pFa_cg {off sz p p'} {K : V → Prop} (h1 : p = p') : pFa off sz p K = pFa off sz p' K := by subst h1; rfl
theorem pIndexAddr_cg {s x x' i i' H H'} {K : V → Prop} (h1 : x = x') (h2 : i = i') (h3 : H = H') : pIndexAddr s x i H K = pIndexAddr s x' i' H' K := by subst h1; subst h2; subst h3; rfl
theorem pLn_cg {b x x'} {K : V → Prop} (h1 : x = x') : pLn b x K = pLn b x' K := by subst h1; rfl
theorem pNil_cg {x x'} {K : V → Prop} (h1 : x = x') : pNil x K = pNil x' K := by subst h1; rfl
theorem pNot_cg {x x'} {K : V → Prop} (h1 : x = x') : pNot x K = pNot x' K := by subst h1; rfl
theorem pNeg_cg {x x'} {K : V → Prop} (h1 : x = x') : pNeg x K = pNeg x' K := by subst h1; rfl
theorem pPick_cg {x x' a a' b b'} {K : V → Prop} (h1 : x = x') (h2 : a = a') (h3 : b = b') : pPick x a b K = pPick x' a' b' K := by subst h1; subst h2; subst h3; rfl
theorem pTup_cg {x x' i} {K : V → Prop} (h1 : x = x') : pTup x i K = pTup x' i K := by subst h1; rfl
theorem pField_cg {x x' ag sz off} {K : V → Prop} (h1 : x = x') : pField x ag sz off K = pField x' ag sz off K := by subst h1; rfl
theorem pConvInt_cg {k x x'} {K : V → Prop} (h1 : x = x') : pConvInt k x K = pConvInt k x' K := by subst h1; rfl
theorem pConvBytes_cg {x x' H H'} {K : V → Prop} (h1 : x = x') (h2 : H = H') : pConvBytes x H K = pConvBytes x' H' K := by subst h1; subst h2; rfl
theorem pAt_cg {x x' i i'} {K : V → Prop} (h1 : x = x') (h2 : i = i') : pAt x i K = pAt x' i' K := by subst h1; subst h2; rfl
theorem pMin_cg {x x' i i'} {K : V → Prop} (h1 : x = x') (h2 : i = i') : pMin x i K = pMin x' i' K := by subst h1; subst h2; rfl
theorem pMax_cg {x x' i i'} {K : V → Prop} (h1 : x = x') (h2 : i = i') : pMax x i K = pMax x' i' K := by subst h1; subst h2; rfl
theorem pMk_cg {e s b z l l' c c' H H'} {K : V → Heap → Prop} (h1 : l = l') (h2 : c = c') (h3 : H = H') : pMk e s b z l c H K = pMk e s b z l' c' H' K := by subst h1; subst h2; subst h3; rfl
theorem pBs_cg {e s z len is vs vs' H H'} {K : V → Heap → Prop} (h1 : vs = vs') (h2 : H = H') : pBs e s z len is vs H K = pBs e s z len is vs' H' K := by subst h1; subst h2; rfl
theorem pBuild_cg {z ps ps'} {K : V → Prop} (h1 : ps = ps') : pBuild z ps K = pBuild z ps' K := by subst h1; rfl
theorem pAp_cg {t e s b z x x' y y' H H'} {K : V → Heap → Prop} (h1 : x = x') (h2 : y = y') (h3 : H = H') : pAp t e s b z x y H K = pAp t e s b z x' y' H' K := by subst h1; subst h2; subst h3; rfl
theorem pSc_cg {b s x x' lo lo' hi hi' H H'} {K : V → Prop} (h1 : x = x') (h2 : lo = lo') (h3 : hi = hi') (h4 : H = H') : pSc b s x lo hi H K = pSc b s x' lo' hi' H' K := by subst h1; subst h2; subst h3; subst h4; rfl
theorem pCl_cg {s z x x' H H'} {K : V → Heap → Prop} (h1 : x = x') (h2 : H = H') : pCl s z x H K = pCl s z x' H' K := by subst h1; subst h2; rfl
theorem pCall_cg {P k args args' H H'} {K : V → Heap → Prop} (h1 : args = args') (h2 : H = H') : pCall P k args H K = pCall P k args' H' K := by subst h1; subst h2; rfl
theorem pCallV_cg {P f f' args args' H H'} {K : V → Heap → Prop} (h0 : f = f') (h1 : args = args') (h2 : H = H') : pCallV P f args H K = pCallV P f' args' H' K := by subst h0; subst h1; subst h2; rfl
theorem pWk_cg {n n' vs vs' H H'} {K : List V → Heap → Prop} (h0 : n = n') (h1 : vs = vs') (h2 : H = H') : pWk n vs H K = pWk n' vs' H' K := by subst h0; subst h1; subst h2; rfl
theorem cIf_cg {v v' : V} {A B : Prop} (h1 : v = v') : cIf v A B = cIf v' A B := by subst h1; rfl

theorem pConvX_cg {P src dst x x' H H'} {K : V → Prop} (h1 : x = x') (h2 : H = H') : pConvX P src dst x H K = pConvX P src dst x' H' K := by subst h1; subst h2; rfl
theorem pConvX_bytes {P : Program} {src dst e : TypeId} (h1 : P.underlying src = some (.slice e)) (h2 : P.underlying dst = some .string) (h3 : P.underlying e = some (.int .u8)) (v : V) (H : Heap) (K : V → Prop) : pConvX P src dst v H K = pConvBytes v H K := by
  unfold pConvX pConvBytes
  rw [h1, h2]
  simp only [h3]
  cases v <;> ((try simp only); generalize elems H _ = o; cases o <;> rfl)
def optK (o : Option V) (K : V → Prop) : Prop := match o with
  | some v => K v
  | none => False
theorem optK_cg {o o' : Option V} {K : V → Prop} (h : o = o') : optK o K = optK o' K := by subst h; rfl
theorem optK_some {v : V} {K : V → Prop} : optK (some v) K = K v := rfl
theorem optK_none {K : V → Prop} : optK none K = False := rfl
def optB (o : Option Blk) (K : Blk → Prop) : Prop := match o with
  | some v => K v
  | none => False
theorem optB_cg {o o' : Option Blk} {K : Blk → Prop} (h : o = o') : optB o K = optB o' K := by subst h; rfl
theorem optB_some {v : Blk} {K : Blk → Prop} : optB (some v) K = K v := rfl
def optE (o : Option (Nat × List V)) (K : Nat → List V → Prop) : Prop := match o with
  | some (s, xs) => K s xs
  | none => False
theorem optE_cg {o o' : Option (Nat × List V)} {K} (h : o = o') : optE o K = optE o' K := by subst h; rfl
theorem optE_some {s xs K} : optE (some (s, xs)) K = K s xs := rfl
def optT (o : Option Bool) (K : Bool → Prop) : Prop := match o with
  | some b => K b
  | none => False
theorem optT_cg {o o' : Option Bool} {K} (h : o = o') : optT o K = optT o' K := by subst h; rfl
theorem optT_some {b K} : optT (some b) K = K b := rfl

/-! ### values -/
theorem cells_agg {cs} : V.cells (.agg cs) = cs := rfl
theorem cells_int {k n} : V.cells (.int k n) = [.int k n] := rfl
theorem cells_bool {b} : V.cells (.bool b) = [.bool b] := rfl
theorem cells_str {s} : V.cells (.str s) = [.str s] := rfl
theorem cells_sl {nn s xs} : V.cells (.sl nn s xs) = [.sl nn s xs] := rfl
theorem cells_ref {i o l} : V.cells (.ref i o l) = [.ref i o l] := rfl
theorem cells_ptr {i o l} : V.cells (.ptr i o l) = [.ptr i o l] := rfl
theorem cells_loc {s r j} : V.cells (.loc s r j) = [.loc s r j] := rfl
theorem cells_fn {f c} : V.cells (.fn f c) = [.fn f c] := rfl
theorem cells_nil : V.cells .nil = [.nil] := rfl
theorem cells_nilf : V.cells .nilf = [.nilf] := rfl
theorem cells_nili : V.cells .nili = [.nili] := rfl
theorem one_int {k n} : V.one (.int k n) = true := rfl
theorem one_bool {b} : V.one (.bool b) = true := rfl
theorem one_str {s} : V.one (.str s) = true := rfl
theorem one_sl {nn s xs} : V.one (.sl nn s xs) = true := rfl
theorem one_ref {i o l} : V.one (.ref i o l) = true := rfl
theorem one_ptr {i o l} : V.one (.ptr i o l) = true := rfl
theorem one_loc {s r j} : V.one (.loc s r j) = true := rfl
theorem one_fn {f c} : V.one (.fn f c) = true := rfl
theorem one_nil : V.one .nil = true := rfl
theorem one_nilf : V.one .nilf = true := rfl
theorem ok_agg {cs} : V.cellsOk (.agg cs) = cs.all V.one := rfl
theorem ok_int {k n} : V.cellsOk (.int k n) = true := rfl
theorem ok_bool {b} : V.cellsOk (.bool b) = true := rfl
theorem ok_str {s} : V.cellsOk (.str s) = true := rfl
theorem ok_sl {nn s xs} : V.cellsOk (.sl nn s xs) = true := rfl
theorem ok_ref {i o l} : V.cellsOk (.ref i o l) = true := rfl
theorem ok_ptr {i o l} : V.cellsOk (.ptr i o l) = true := rfl
theorem ok_loc {s r j} : V.cellsOk (.loc s r j) = true := rfl
theorem ok_fn {f c} : V.cellsOk (.fn f c) = true := rfl
theorem ok_nil : V.cellsOk .nil = true := rfl
theorem ok_nilf : V.cellsOk .nilf = true := rfl
theorem st_agg {cs} : V.static (.agg cs) = V.statics cs := by rw [V.static]
theorem st_int {k n} : V.static (.int k n) = true := rfl
theorem st_bool {b} : V.static (.bool b) = true := rfl
theorem st_str {s} : V.static (.str s) = true := rfl
theorem st_sl {nn s xs} : V.static (.sl nn s xs) = true := rfl
theorem st_loc {s r j} : V.static (.loc s r j) = true := rfl
theorem st_fn {f c} : V.static (.fn f c) = V.statics c := by rw [V.static]
theorem st_nil : V.static .nil = true := rfl
theorem st_nilf : V.static .nilf = true := rfl
theorem sts_nil : V.statics [] = true := rfl
theorem sts_cons {v r} : V.statics (v :: r) = (v.static && V.statics r) := rfl
theorem ids_agg {cs} : V.ids (.agg cs) = V.idss cs := by rw [V.ids]
theorem ids_tup {cs} : V.ids (.tup cs) = V.idss cs := by rw [V.ids]
theorem ids_fn {f cs} : V.ids (.fn f cs) = V.idss cs := by rw [V.ids]
theorem ids_int {k n} : V.ids (.int k n) = [] := rfl
theorem ids_bool {b} : V.ids (.bool b) = [] := rfl
theorem ids_str {s} : V.ids (.str s) = [] := rfl
theorem ids_sl {nn s xs} : V.ids (.sl nn s xs) = [] := rfl
theorem ids_loc {s r j} : V.ids (.loc s r j) = [] := rfl
theorem ids_ref {i o l} : V.ids (.ref i o l) = [i] := rfl
theorem ids_ptr {i o l} : V.ids (.ptr i o l) = [] := rfl
theorem ids_nil : V.ids .nil = [] := rfl
theorem ids_nilf : V.ids .nilf = [] := rfl
theorem idss_nil : V.idss [] = [] := rfl
theorem idss_cons {v r} : V.idss (v :: r) = v.ids ++ V.idss r := rfl
theorem idss_ints {xs : List Int} : V.idss (xs.map V.i) = [] := by
  induction xs with
  | nil => rfl
  | cons a l ih => rw [List.map_cons, idss_cons, ih]; rfl
theorem ids_st {v : V} (h : v.static = true) : v.ids = [] := by
  have key : ∀ v : V, v.static = true → v.ids = [] := fun v => V.rec (motive_1 := fun v => v.static = true → v.ids = []) (motive_2 := fun l => V.statics l = true → V.idss l = [])
    (fun _ _ _ => rfl) (fun _ _ => rfl) (fun _ _ => rfl) (fun cs ih h => by rw [st_agg] at h; rw [ids_agg]; exact ih h) (fun cs ih h => by cases h) (fun _ _ _ _ _ => rfl) (fun _ => rfl) (fun _ => rfl) (fun _ => rfl)
    (fun t v ih h => ih h) (fun f cs ih h => by rw [st_fn] at h; rw [ids_fn]; exact ih h) (fun _ _ _ _ _ => rfl) (fun _ _ _ h => by cases h) (fun _ _ _ _ => rfl) (fun _ => rfl) (fun _ => rfl)
    (fun v l ih1 ih2 h => by
      rw [sts_cons, Bool.and_eq_true] at h
      rw [idss_cons, ih1 h.1, ih2 h.2]; rfl) v
  exact key v h

/-! ### rows and blocks -/
theorem rg_agg {sz cs j} : rowGet true sz (.agg cs) j = if j + sz ≤ cs.length then some (.agg ((cs.drop j).take sz)) else none := rfl
theorem rg_cell {sz cs j} : rowGet false sz (.agg cs) j = cs[j]? := rfl
theorem rg_int {sz k n} : rowGet false sz (.int k n) 0 = some (.int k n) := rfl
theorem rg_bool {sz b} : rowGet false sz (.bool b) 0 = some (.bool b) := rfl
theorem rg_str {sz s} : rowGet false sz (.str s) 0 = some (.str s) := rfl
theorem rg_sl {sz nn s xs} : rowGet false sz (.sl nn s xs) 0 = some (.sl nn s xs) := rfl
theorem rg_ref {sz i o l} : rowGet false sz (.ref i o l) 0 = some (.ref i o l) := rfl
theorem rg_ptr {sz i o l} : rowGet false sz (.ptr i o l) 0 = some (.ptr i o l) := rfl
theorem rg_fn {sz f c} : rowGet false sz (.fn f c) 0 = some (.fn f c) := rfl
theorem rs_agg {cs j v} : rowSet (.agg cs) j v = if j + v.cells.length ≤ cs.length then some (.agg (splice cs j v.cells)) else none := rfl
theorem rs_int {k n} {v : V} (h : v.one = true) : rowSet (.int k n) 0 v = some v := by simp [rowSet, h]
theorem rs_bool {b} {v : V} (h : v.one = true) : rowSet (.bool b) 0 v = some v := by simp [rowSet, h]
theorem rs_str {s} {v : V} (h : v.one = true) : rowSet (.str s) 0 v = some v := by simp [rowSet, h]
theorem rs_sl' {nn s xs} {v : V} (h : v.one = true) : rowSet (.sl nn s xs) 0 v = some v := by simp [rowSet, h]
theorem rs_ref {i o l} {v : V} (h : v.one = true) : rowSet (.ref i o l) 0 v = some v := by simp [rowSet, h]
theorem rsc_int {k n} {v : V} : rowSet (.int k n) 0 v = bif v.one then some v else none := by simp [rowSet]
theorem rsc_bool {b} {v : V} : rowSet (.bool b) 0 v = bif v.one then some v else none := by simp [rowSet]
theorem rsc_str {b} {v : V} : rowSet (.str b) 0 v = bif v.one then some v else none := by simp [rowSet]
theorem rsc_sl {nn s xs} {v : V} : rowSet (.sl nn s xs) 0 v = bif v.one then some v else none := by simp [rowSet]
theorem rsc_ref {i o l} {v : V} : rowSet (.ref i o l) 0 v = bif v.one then some v else none := by simp [rowSet]
theorem splice_eq {cs j ds} : splice cs j ds = cs.take j ++ ds ++ cs.drop (j + ds.length) := rfl

def blkGet (ag : Bool) (sz : Nat) (o : Option Blk) (i j : Nat) : Option V :=
  match o with
  | some (.sl _ _ _ rows) => (rows[i]?).bind fun row => rowGet ag sz row j
  | some (.fz _ _ rows) => (rows[i]?).bind fun row => rowGet ag sz row j
  | some (.box _ row) => if i = 0 then rowGet ag sz row j else none
  | _ => none
theorem bg_sl {ag sz nn e s rows i j} : blkGet ag sz (some (.sl nn e s rows)) i j = (rows[i]?).bind fun row => rowGet ag sz row j := rfl
theorem bg_fz {ag sz nn s rows i j} : blkGet ag sz (some (.fz nn s rows)) i j = (rows[i]?).bind fun row => rowGet ag sz row j := rfl
theorem bg_box {ag sz e row j} : blkGet ag sz (some (.box e row)) 0 j = rowGet ag sz row j := rfl
theorem w_load_loc {ag sz s row j H} {K : V → Prop} : pLoad ag sz (.loc s row j) H K = optK (rowGet ag sz row j) K := rfl
theorem w_load_ptr {ag sz id i j H} {K : V → Prop} : pLoad ag sz (.ptr id i j) H K = optK (blkGet ag sz H[id]? i j) K := by
  unfold pLoad blkGet
  simp only
  generalize H[id]? = o
  cases o with
  | none => rfl
  | some k =>
    cases k with
    | sl nn e s rows =>
      simp only
      cases rows[i]? <;> rfl
    | fz nn s rows =>
      simp only
      cases rows[i]? <;> rfl
    | box e v => cases i with
      | zero => rfl
      | succ i => rfl
    | dead => rfl
def blkSet (o : Option Blk) (i j : Nat) (v : V) : Option Blk :=
  match o with
  | some (.sl nn e s rows) => if v.static = true then (rows[i]?).bind fun row => (rowSet row j v).map fun row' => .sl nn e s (rows.set i row') else none
  | some (.box e row) => if i = 0 then (rowSet row j v).map fun row' => .box e row' else none
  | _ => none
theorem bs_sl {nn e s rows i j} {v : V} (h : v.static = true) : blkSet (some (.sl nn e s rows)) i j v = (rows[i]?).bind fun row => (rowSet row j v).map fun row' => .sl nn e s (rows.set i row') := by simp [blkSet, h]
theorem bs_slc {nn e s rows i j} {v : V} : blkSet (some (.sl nn e s rows)) i j v = bif v.static then ((rows[i]?).bind fun row => (rowSet row j v).map fun row' => .sl nn e s (rows.set i row')) else none := by
  unfold blkSet; cases v.static <;> rfl
theorem bs_box {e row j v} : blkSet (some (.box e row)) 0 j v = (rowSet row j v).map fun row' => .box e row' := rfl
theorem w_store {sz id i j v H} {K : Heap → Prop} : pStore sz (.ptr id i j) v H K = (v.cellsOk = true ∧ v.cells.length = sz ∧ optB (blkSet H[id]? i j v) fun k => K (H.set id k)) := by
  unfold pStore blkSet
  simp only
  generalize H[id]? = o
  cases o with
  | none => rfl
  | some k =>
    cases k with
    | sl nn e s rows =>
      simp only
      cases hs : v.static with
      | false => simp [optB]
      | true =>
        cases rows[i]? with
        | none => simp [optB]
        | some row => simp only [Option.bind_some]; cases rowSet row j v <;> simp [optB]
    | fz nn s rows => rfl
    | box e v' => cases i with
      | zero => simp only; cases rowSet v' j v <;> simp [optB]
      | succ i => rfl
    | dead => rfl
def isSlB (o : Option Blk) : Bool := match o with
  | some (.sl _ _ _ _) => true
  | _ => false
theorem isSl_sl {nn e s rows} : isSlB (some (.sl nn e s rows)) = true := rfl
theorem isSl_box {e v} : isSlB (some (.box e v)) = false := rfl
theorem w_want {H id i j} : wantFz H (.ptr id i j) = isSlB H[id]? := rfl
def pStK (sz : Nat) (p : V) (K : Heap → Prop) (vs : List V) (H' : Heap) : Prop := match vs with
  | [v] => pStore sz p v H' K
  | _ => False
theorem pStK_one {sz p K v H'} : pStK sz p K [v] H' = pStore sz p v H' K := rfl
theorem w_st {sz p v H} {K : Heap → Prop} : pSt sz p v H K = pFz (wantFz H p) H [v] (pStK sz p K) := rfl
theorem w_fz0 {H vs K} : pFz false H vs K = K vs H := rfl
def pFzL (l : List Nat) (H : Heap) (vs : List V) (K : List V → Heap → Prop) : Prop := match l with
  | [] => K vs H
  | i :: r => K (vs.map (·.view (vwOf (frzL H (i :: r)) (i :: r)))) (frzL H (i :: r))
theorem pFzL_cg {l l' H vs} {K : List V → Heap → Prop} (h : l = l') : pFzL l H vs K = pFzL l' H vs K := by subst h; rfl
theorem pFzL_nil {H vs K} : pFzL [] H vs K = K vs H := rfl
theorem pFzL_cons {i r H vs K} : pFzL (i :: r) H vs K = K (vs.map (·.view (vwOf (frzL H (i :: r)) (i :: r)))) (frzL H (i :: r)) := rfl
theorem w_fz1 {H vs K} : pFz true H vs K = pFzL (V.idss vs) H vs K := rfl
def frzB (o : Option Blk) (H : Heap) (id : Nat) : Heap := match o with
  | some (.sl nn _ s rows) => H.set id (.fz nn s rows)
  | _ => H
theorem w_frzL0 {H} : frzL H [] = H := rfl
theorem w_frzL1 {H i r} : frzL H (i :: r) = frzL (frzB H[i]? H i) r := rfl
theorem frzB_sl {nn e s rows H i} : frzB (some (.sl nn e s rows)) H i = H.set i (.fz nn s rows) := rfl
theorem frzB_fz {nn s rows H i} : frzB (some (.fz nn s rows)) H i = H := rfl

theorem vw_ref {f i o l} : V.view f (.ref i o l) = (match f i with
  | some (nn, s, rows) => if o + l ≤ rows.length then .sl nn s ((rows.drop o).take l) else .ref i o l
  | none => .ref i o l) := by
  rw [V.view]
  generalize f i = q
  cases q <;> rfl

/-! ### operations -/
theorem w_box {e v H} {K : V → Heap → Prop} : pBox e v H K = (v.cellsOk = true ∧ K (.ptr H.length 0 0) (H ++ [.box e v])) := rfl
theorem w_fa_ptr {off sz id i j} {K : V → Prop} : pFa off sz (.ptr id i j) K = (sz ≠ 0 ∧ K (.ptr id i (j + off))) := rfl
theorem w_fa_loc {off sz s r j} {K : V → Prop} : pFa off sz (.loc s r j) K = (sz ≠ 0 ∧ K (.loc s r (j + off))) := rfl
theorem w_nil_ptr {id i j} {K : V → Prop} : pNil (.ptr id i j) K = K (.ptr id i j) := rfl
theorem w_nil_loc {id i j} {K : V → Prop} : pNil (.loc id i j) K = K (.loc id i j) := rfl
theorem w_nil_fn {f c} {K : V → Prop} : pNil (.fn f c) K = K (.fn f c) := rfl
theorem w_not {b} {K : V → Prop} : pNot (.bool b) K = K (.bool (!b)) := rfl
theorem w_neg {k n} {K : V → Prop} : pNeg (.int k n) K = K (.int k (k.wrap (0 - n))) := rfl
theorem w_pick {b x y} {K : V → Prop} : pPick (.bool b) x y K = K (pickV b x y) := rfl
theorem w_pick_b {b x y} : pickV b (.bool x) (.bool y) = .bool (bif b then x else y) := rfl
theorem w_pick_i {b x y} : pickV b (.int .i64 x) (.int .i64 y) = .int .i64 (bif b then x else y) := rfl
theorem w_tup {vs i} {K : V → Prop} : pTup (.tup vs) i K = optK vs[i]? K := by
  unfold pTup optK
  rfl
theorem w_field {cs ag sz off} {K : V → Prop} : pField (.agg cs) ag sz off K = optK (rowGet ag sz (.agg cs) off) K := by
  unfold pField optK
  rfl
theorem w_conv {k k' n} {K : V → Prop} : pConvInt k (.int k' n) K = K (.int k (k.wrap n)) := rfl
theorem w_min {k k' a b} {K : V → Prop} : pMin (.int k a) (.int k' b) K = K (.int k (if b < a then b else a)) := rfl
theorem w_max {k k' a b} {K : V → Prop} : pMax (.int k a) (.int k' b) K = K (.int k (if b > a then b else a)) := rfl
theorem w_if {b} {A B : Prop} : cIf (.bool b) A B = ((b = true → A) ∧ (b = false → B)) := rfl
theorem w_len_sl {nn s xs} {K : V → Prop} : pLn false (.sl nn s xs) K = K (.int .i64 xs.length) := by simp [pLn, isStr, pLen]
theorem w_len_ref {i o l} {K : V → Prop} : pLn false (.ref i o l) K = K (.int .i64 l) := by simp [pLn, isStr, pLen]
theorem w_len_str {s} {K : V → Prop} : pLn true (.str s) K = K (.int .i64 s.size) := by simp [pLn, isStr, pLen]
theorem w_ix_sl {s nn xs k n H} {K : V → Prop} : pIndexAddr s (.sl nn s xs) (.int k n) H K = (0 ≤ n ∧ n < xs.length ∧ optK xs[n.toNat]? fun row => K (.loc s row 0)) := by
  unfold pIndexAddr optK
  simp only
  generalize xs[n.toNat]? = o
  cases o <;> simp
def widthB (o : Option Blk) : Option Nat := match o with
  | some (.sl _ _ s _) => some s
  | some (.fz _ s _) => some s
  | _ => none
theorem wd_sl {nn e s rows} : widthB (some (.sl nn e s rows)) = some s := rfl
theorem wd_fz {nn s rows} : widthB (some (.fz nn s rows)) = some s := rfl
theorem w_width {H id} : Heap.width H id = widthB H[id]? := rfl
theorem w_ix_ref {s id off len k n H} {K : V → Prop} : pIndexAddr s (.ref id off len) (.int k n) H K = (widthB H[id]? = some s ∧ 0 ≤ n ∧ n < len ∧ K (.ptr id (off + n.toNat) 0)) := rfl
theorem w_at {s k n} {K : V → Prop} : pAt (.str s) (.int k n) K = (0 ≤ n ∧ optK ((s[n.toNat]?).map fun b => .int .u8 b.toNat) K) := by
  unfold pAt optK
  simp only
  cases s[n.toNat]? <;> rfl
theorem w_callv {P k caps args H} {K : V → Heap → Prop} : pCallV P (.fn k caps) args H K = pCall P k (args ++ caps) H K := rfl

theorem w_add {ek k a b H} {K : V → Prop} : pBin ek .add (.int k a) (.int k b) H K = K (.int k (k.wrap (a + b))) := by simp [pBin, pInt]
theorem w_sub {ek k a b H} {K : V → Prop} : pBin ek .sub (.int k a) (.int k b) H K = K (.int k (k.wrap (a - b))) := by simp [pBin, pInt]
theorem w_mul {ek k a b H} {K : V → Prop} : pBin ek .mul (.int k a) (.int k b) H K = K (.int k (k.wrap (a * b))) := by simp [pBin, pInt]
theorem w_quo {ek k a b H} {K : V → Prop} : pBin ek .quo (.int k a) (.int k b) H K = (b ≠ 0 ∧ K (.int k (k.wrap (a.tdiv b)))) := by simp [pBin, pInt]
theorem w_rem {ek k a b H} {K : V → Prop} : pBin ek .rem (.int k a) (.int k b) H K = (b ≠ 0 ∧ K (.int k (a.tmod b))) := by simp [pBin, pInt]
theorem w_eql {ek k a b H} {K : V → Prop} : pBin ek .eql (.int k a) (.int k b) H K = K (.bool (a == b)) := by simp [pBin, pInt]
theorem w_neq {ek k a b H} {K : V → Prop} : pBin ek .neq (.int k a) (.int k b) H K = K (.bool (a != b)) := by simp [pBin, pInt]
theorem w_lss {ek k a b H} {K : V → Prop} : pBin ek .lss (.int k a) (.int k b) H K = K (.bool (decide (a < b))) := by simp [pBin, pInt]
theorem w_leq {ek k a b H} {K : V → Prop} : pBin ek .leq (.int k a) (.int k b) H K = K (.bool (decide (a ≤ b))) := by simp [pBin, pInt]
theorem w_gtr {ek k a b H} {K : V → Prop} : pBin ek .gtr (.int k a) (.int k b) H K = K (.bool (decide (b < a))) := by simp [pBin, pInt]
theorem w_geq {ek k a b H} {K : V → Prop} : pBin ek .geq (.int k a) (.int k b) H K = K (.bool (decide (b ≤ a))) := by simp [pBin, pInt]
theorem w_and {ek k a b H} {K : V → Prop} : pBin ek .and (.int k a) (.int k b) H K = K (.int k (k.wrap ((BitVec.ofInt k.bits a &&& BitVec.ofInt k.bits b).toNat : Int))) := by simp [pBin, pInt]
theorem w_xor {ek k a b H} {K : V → Prop} : pBin ek .xor (.int k a) (.int k b) H K = K (.int k (k.wrap ((BitVec.ofInt k.bits a ^^^ BitVec.ofInt k.bits b).toNat : Int))) := by simp [pBin, pInt]
theorem w_shr {ek k k' a b H} {K : V → Prop} : pBin ek .shr (.int k a) (.int k' b) H K = (0 ≤ b ∧ K (.int k (a.fdiv (2 ^ (min b.toNat k.bits))))) := rfl
theorem w_shl {ek k k' a b H} {K : V → Prop} : pBin ek .shl (.int k a) (.int k' b) H K = (0 ≤ b ∧ K (.int k (k.wrap (a * 2 ^ (min b.toNat k.bits))))) := rfl
theorem w_sadd {ek a b H} {K : V → Prop} : pBin ek .add (.str a) (.str b) H K = (a.size + b.size ≤ 4611686018427387904 ∧ K (.str (a ++ b))) := rfl
theorem w_seql {ek a b H} {K : V → Prop} : pBin ek .eql (.str a) (.str b) H K = K (.bool (a == b)) := rfl
theorem w_sneq {ek a b H} {K : V → Prop} : pBin ek .neq (.str a) (.str b) H K = K (.bool (a != b)) := rfl
theorem w_beql {a b H} {K : V → Prop} : pBin .bool .eql (.bool a) (.bool b) H K = K (.bool (a == b)) := rfl
theorem w_bneq {a b H} {K : V → Prop} : pBin .bool .neq (.bool a) (.bool b) H K = K (.bool (a != b)) := rfl
theorem w_aeql {ks a b H} {K : V → Prop} : pBin (.agg ks) .eql (.agg a) (.agg b) H K = optT (eqCells ks a b) fun t => K (.bool t) := by unfold pBin optT; rfl
theorem w_aneq {ks a b H} {K : V → Prop} : pBin (.agg ks) .neq (.agg a) (.agg b) H K = optT (eqCells ks a b) fun t => K (.bool (!t)) := by unfold pBin optT; rfl
theorem w_slnil {nn s xs s' H} {K : V → Prop} : pBin .slice .eql (.sl nn s xs) (.sl false s' []) H K = K (.bool (!nn)) := rfl
theorem w_slnn {nn s xs s' H} {K : V → Prop} : pBin .slice .neq (.sl nn s xs) (.sl false s' []) H K = K (.bool nn) := rfl

theorem w_mk {e s b z k n k' m H} {K : V → Heap → Prop} : pMk e s b z (.int k n) (.int k' m) H K = (z.cells.length = s ∧ 0 < s ∧ 0 < b ∧ 0 ≤ n ∧ n ≤ m ∧ m * b ≤ 140737488355328 ∧ K (.ref H.length 0 n.toNat) (H ++ [.sl true e s (List.replicate n.toNat z)])) := rfl
def partsOk (s len : Nat) : List (Nat × V) → Bool
  | [] => true
  | p :: r => decide (p.1 < len) && decide (p.2.cells.length = s) && p.2.cellsOk && p.2.static && partsOk s len r
theorem partsOk_iff {s len} : ∀ {l : List (Nat × V)}, partsOk s len l = true ↔ ∀ p ∈ l, p.1 < len ∧ p.2.cells.length = s ∧ p.2.cellsOk = true ∧ p.2.static = true
  | [] => by simp [partsOk]
  | p :: r => by
    simp only [partsOk, Bool.and_eq_true, decide_eq_true_eq, List.mem_cons, forall_eq_or_imp, partsOk_iff (l := r)]
    constructor
    · rintro ⟨⟨⟨⟨a, b⟩, c⟩, d⟩, e⟩; exact ⟨⟨a, b, c, d⟩, e⟩
    · rintro ⟨⟨a, b, c, d⟩, e⟩; exact ⟨⟨⟨⟨a, b⟩, c⟩, d⟩, e⟩
def pBsK (e : TypeId) (s : Nat) (z : V) (len : Nat) (is : List Nat) (K : V → Heap → Prop) (vs : List V) (H' : Heap) : Prop := pBuildSlice e s z len (is.zip vs) H' K
theorem w_bsK {e s z len is K vs H'} : pBsK e s z len is K vs H' = (partsOk s len (is.zip vs) = true ∧ K (.ref H'.length 0 len) (H' ++ [.sl true e s (rowsOf z len (is.zip vs))])) := by
  unfold pBsK pBuildSlice
  rw [partsOk_iff]
theorem w_bs {e s z len is vs H} {K : V → Heap → Prop} : pBs e s z len is vs H K = (z.cells.length = s ∧ 0 < s ∧ len * s ≤ 16777216 ∧ pFz true H vs (pBsK e s z len is K)) := rfl
theorem po_nil {s len} : partsOk s len [] = true := rfl
theorem po_cons {s len i v r} : partsOk s len ((i, v) :: r) = (decide (i < len) && decide (v.cells.length = s) && v.cellsOk && v.static && partsOk s len r) := rfl
theorem w_rowsOf {z len ps} : rowsOf z len ps = ps.foldl (fun r p => r.set p.1 p.2) (List.replicate len z) := rfl
def bpOk (n : Nat) : List (Nat × Nat × V) → Bool
  | [] => true
  | p :: r => decide (p.2.2.cells.length = p.2.1) && decide (p.1 + p.2.1 ≤ n) && p.2.2.cellsOk && bpOk n r
theorem bpOk_iff {n} : ∀ {l : List (Nat × Nat × V)}, bpOk n l = true ↔ ∀ p ∈ l, p.2.2.cells.length = p.2.1 ∧ p.1 + p.2.1 ≤ n ∧ p.2.2.cellsOk = true
  | [] => by simp [bpOk]
  | p :: r => by
    simp only [bpOk, Bool.and_eq_true, decide_eq_true_eq, List.mem_cons, forall_eq_or_imp, bpOk_iff (l := r)]
    constructor
    · rintro ⟨⟨⟨a, b⟩, c⟩, e⟩; exact ⟨⟨a, b, c⟩, e⟩
    · rintro ⟨⟨a, b, c⟩, e⟩; exact ⟨⟨⟨a, b⟩, c⟩, e⟩
theorem bp_nil {n} : bpOk n [] = true := rfl
theorem bp_cons {n o s v r} : bpOk n ((o, s, v) :: r) = (decide (v.cells.length = s) && decide (o + s ≤ n) && v.cellsOk && bpOk n r) := rfl
theorem w_build {z ps} {K : V → Prop} : pBuild z ps K = (bpOk z.length ps = true ∧ K (.agg (buildCells z (ps.map fun p => (p.1, p.2.2))))) := by
  unfold pBuild
  rw [bpOk_iff]
theorem w_bc0 {z} : buildCells z [] = z := rfl
theorem w_bc1 {z o v r} : buildCells z ((o, v) :: r) = buildCells (splice z o v.cells) r := rfl
def elB (o : Option Blk) (off len : Nat) : Option (Nat × List V) := match o with
  | some (.sl _ _ s rows) => if off + len ≤ rows.length then some (s, (rows.drop off).take len) else none
  | some (.fz _ s rows) => if off + len ≤ rows.length then some (s, (rows.drop off).take len) else none
  | _ => none
theorem el_sl {H nn s xs} : elems H (.sl nn s xs) = some (s, xs) := rfl
theorem el_ref {H id off len} : elems H (.ref id off len) = elB H[id]? off len := rfl
theorem elB_sl {nn e s rows off len} : elB (some (.sl nn e s rows)) off len = if off + len ≤ rows.length then some (s, (rows.drop off).take len) else none := rfl
theorem elB_fz {nn s rows off len} : elB (some (.fz nn s rows)) off len = if off + len ≤ rows.length then some (s, (rows.drop off).take len) else none := rfl
/-- append to a nil slice -/
theorem w_ap_nil {t e s b z s' y H} {K : V → Heap → Prop} : pAp t e s b z (.sl false s' []) y H K = (z.cells.length = s ∧ 0 < s ∧ 0 < b ∧ optE (elems H y) fun sy ys => (sy = s ∨ ys = []) ∧ ys.length * b ≤ 140737488355328 ∧ K (.ref H.length 0 ys.length) (H ++ [.sl (!ys.isEmpty) e s ys])) := by
  unfold pAp pAppend optE
  simp only [true_and]
  generalize elems H y = o
  cases o <;> rfl
def apB (o : Option Blk) (H : Heap) (e : TypeId) (s b id off len : Nat) (ys : List V) (K : V → Heap → Prop) : Prop := match o with
  | some (.sl nn e' s' rows) => e' = e ∧ s' = s ∧ off + len = rows.length ∧ (len + ys.length) * b ≤ 140737488355328 ∧
      K (.ref H.length 0 (len + ys.length)) (H.set id .dead ++ [.sl (nn || !ys.isEmpty) e s (rows.drop off ++ ys)])
  | _ => False
theorem apB_sl {H nn e s b id off len ys rows} {K : V → Heap → Prop} : apB (some (.sl nn e s rows)) H e s b id off len ys K = (off + len = rows.length ∧ (len + ys.length) * b ≤ 140737488355328 ∧
      K (.ref H.length 0 (len + ys.length)) (H.set id .dead ++ [.sl (nn || !ys.isEmpty) e s (rows.drop off ++ ys)])) := by simp [apB]
theorem apB_cg {o o' H e s b id off len ys} {K : V → Heap → Prop} (h : o = o') : apB o H e s b id off len ys K = apB o' H e s b id off len ys K := by subst h; rfl
theorem w_ap_ref {t e s b z id off len y H} {K : V → Heap → Prop} : pAp t e s b z (.ref id off len) y H K = (z.cells.length = s ∧ 0 < s ∧ 0 < b ∧ optE (elems H y) fun sy ys => (sy = s ∨ ys = []) ∧ apB H[id]? H e s b id off len ys K) := by
  unfold pAp pAppend optE apB
  simp only [true_and]
  generalize elems H y = o
  cases o <;> rfl
def clB (o : Option Blk) (H : Heap) (s id off len : Nat) (K : V → Heap → Prop) : Prop := match o with
  | some (.sl nn e s' rows) => s' = s ∧ off + len = rows.length ∧ K (.tup []) (H.set id (.sl nn e s' (rows.take off)))
  | _ => False
theorem clB_sl {H nn e s id off len rows} {K : V → Heap → Prop} : clB (some (.sl nn e s rows)) H s id off len K = (off + len = rows.length ∧ K (.tup []) (H.set id (.sl nn e s (rows.take off)))) := by simp [clB]
theorem w_cl {s z id off len H} {K : V → Heap → Prop} : pCl s z (.ref id off len) H K = (z.cells.length = s ∧ 0 < s ∧ clB H[id]? H s id off len K) := rfl
theorem w_sc_str {n s lo hi H} {K : V → Prop} : pSc true n (.str s) lo hi H K = pSlice n (.str s) lo hi H K := by simp [pSc, isStr]
theorem w_sc_sl {n nn s xs lo hi H} {K : V → Prop} : pSc false n (.sl nn s xs) lo hi H K = pSlice n (.sl nn s xs) lo hi H K := by simp [pSc, isStr]
theorem w_sc_ref {n i o l lo hi H} {K : V → Prop} : pSc false n (.ref i o l) lo hi H K = pSlice n (.ref i o l) lo hi H K := by simp [pSc, isStr]
theorem w_sl_str {n s k l k' h H} {K : V → Prop} : pSlice n (.str s) (some (.int k l)) (some (.int k' h)) H K = (0 ≤ l ∧ l ≤ h ∧ h ≤ s.size ∧ K (.str (s.extract l.toNat h.toNat))) := rfl
theorem w_sl_str0 {n s k' h H} {K : V → Prop} : pSlice n (.str s) none (some (.int k' h)) H K = (0 ≤ h ∧ h ≤ s.size ∧ K (.str (s.extract 0 h.toNat))) := by simp [pSlice, bnd]
theorem w_sl_str1 {n s k l H} {K : V → Prop} : pSlice n (.str s) (some (.int k l)) none H K = (0 ≤ l ∧ l ≤ s.size ∧ K (.str (s.extract l.toNat s.size))) := by simp [pSlice, bnd]
theorem w_sl_sl {nn s xs k l k' h H} {K : V → Prop} : pSlice s (.sl nn s xs) (some (.int k l)) (some (.int k' h)) H K = (0 ≤ l ∧ l ≤ h ∧ h ≤ xs.length ∧ K (.sl nn s ((xs.take h.toNat).drop l.toNat))) := by simp [pSlice, bnd]
theorem w_sl_sl0 {nn s xs k' h H} {K : V → Prop} : pSlice s (.sl nn s xs) none (some (.int k' h)) H K = (0 ≤ h ∧ h ≤ xs.length ∧ K (.sl nn s (xs.take h.toNat))) := by simp [pSlice, bnd]
theorem w_sl_sl1 {nn s xs k l H} {K : V → Prop} : pSlice s (.sl nn s xs) (some (.int k l)) none H K = (0 ≤ l ∧ l ≤ xs.length ∧ K (.sl nn s (xs.drop l.toNat))) := by simp [pSlice, bnd]
theorem w_sl_ref {s id off len k l k' h H} {K : V → Prop} : pSlice s (.ref id off len) (some (.int k l)) (some (.int k' h)) H K = (widthB H[id]? = some s ∧ 0 ≤ l ∧ l ≤ h ∧ h ≤ len ∧ K (.ref id (off + l.toNat) (h.toNat - l.toNat))) := rfl
theorem w_sl_ref0 {s id off len k' h H} {K : V → Prop} : pSlice s (.ref id off len) none (some (.int k' h)) H K = (widthB H[id]? = some s ∧ 0 ≤ h ∧ h ≤ len ∧ K (.ref id off h.toNat)) := by
  show (_ ∧ (0:Int) ≤ 0 ∧ 0 ≤ h ∧ h ≤ len ∧ K (.ref id (off + 0) (h.toNat - 0))) = _
  simp [w_width]
theorem w_sl_ref1 {s id off len k l H} {K : V → Prop} : pSlice s (.ref id off len) (some (.int k l)) none H K = (widthB H[id]? = some s ∧ 0 ≤ l ∧ l ≤ len ∧ K (.ref id (off + l.toNat) (len - l.toNat))) := by
  show (_ ∧ 0 ≤ l ∧ l ≤ (len : Int) ∧ (len : Int) ≤ len ∧ K (.ref id (off + l.toNat) ((len : Int).toNat - l.toNat))) = _
  simp [w_width]
def kp (a b : Option Blk) : Prop := match a with
  | some (.sl nn e s rows) => b = some (.sl nn e s rows) ∨ b = some (.fz nn s rows)
  | some k => b = some k
  | none => True
theorem kp_sl {nn e s rows b} : kp (some (.sl nn e s rows)) b = (b = some (.sl nn e s rows) ∨ b = some (.fz nn s rows)) := rfl
theorem kp_box {e v b} : kp (some (.box e v)) b = (b = some (.box e v)) := rfl
theorem kp_fz {nn s rows b} : kp (some (.fz nn s rows)) b = (b = some (.fz nn s rows)) := rfl
theorem w_keep_ptr {i o l H H'} : keepV (.ptr i o l) H H' = kp H[i]? H'[i]? := rfl
theorem w_keep_ref {i o l H H'} : keepV (.ref i o l) H H' = kp H[i]? H'[i]? := rfl
theorem w_keep_int {k n H H'} : keepV (.int k n) H H' = True := rfl
theorem w_keep_sl {nn s xs H H'} : keepV (.sl nn s xs) H H' = True := rfl
theorem w_keep_loc {s r j H H'} : keepV (.loc s r j) H H' = True := rfl
theorem w_keep_agg {cs H H'} : keepV (.agg cs) H H' = True := rfl

attribute [congr] pConvX_cg pBox_cg pLoad_cg pStore_cg pSt_cg pFz_cg pBin_cg pFa_cg pIndexAddr_cg pLn_cg pNil_cg pNot_cg pNeg_cg pPick_cg pTup_cg pField_cg pConvInt_cg pConvBytes_cg pAt_cg pMin_cg pMax_cg pMk_cg pBs_cg pBuild_cg pAp_cg pSc_cg pCl_cg pCall_cg pCallV_cg pWk_cg cIf_cg optK_cg optB_cg optE_cg optT_cg pFzL_cg apB_cg
attribute [go_sem] bs_slc rsc_int rsc_bool rsc_str rsc_sl rsc_ref cond_true cond_false optK_some optK_none optB_some optE_some optT_some cells_agg cells_int cells_bool cells_str cells_sl cells_ref cells_ptr cells_loc cells_fn cells_nil cells_nilf cells_nili one_int one_bool one_str one_sl one_ref one_ptr one_loc one_fn one_nil one_nilf ok_agg ok_int ok_bool ok_str ok_sl ok_ref ok_ptr ok_loc ok_fn ok_nil ok_nilf st_agg st_int st_bool st_str st_sl st_loc st_fn st_nil st_nilf sts_nil sts_cons ids_agg ids_tup ids_fn ids_int ids_bool ids_str ids_sl ids_loc ids_ref ids_ptr ids_nil ids_nilf idss_nil idss_cons idss_ints rg_agg rg_cell rg_int rg_bool rg_str rg_sl rg_ref rg_ptr rg_fn rs_agg rs_sl splice_eq bg_sl bg_fz bg_box w_load_loc w_load_ptr bs_box w_store isSl_sl isSl_box w_want pStK_one w_st w_fz0 pFzL_nil pFzL_cons w_fz1 w_frzL0 w_frzL1 frzB_sl frzB_fz vw_ref w_box w_fa_ptr w_fa_loc w_nil_ptr w_nil_loc w_nil_fn w_not w_neg w_pick w_pick_b w_pick_i w_tup w_field w_conv w_min w_max w_if w_len_sl w_len_ref w_len_str w_ix_sl wd_sl wd_fz w_width w_ix_ref w_at w_callv w_add w_sub w_mul w_quo w_rem w_eql w_neq w_lss w_leq w_gtr w_geq w_and w_xor w_shr w_shl w_sadd w_seql w_sneq w_beql w_bneq w_aeql w_aneq w_slnil w_slnn w_mk w_bsK w_bs po_nil po_cons w_rowsOf bp_nil bp_cons w_build w_bc0 w_bc1 el_sl el_ref elB_sl elB_fz w_ap_nil apB_sl w_ap_ref clB_sl w_cl w_sc_str w_sc_sl w_sc_ref w_sl_str w_sl_str0 w_sl_str1 w_sl_sl w_sl_sl0 w_sl_sl1 w_sl_ref w_sl_ref0 w_sl_ref1 kp_sl kp_box kp_fz w_keep_ptr w_keep_ref w_keep_int w_keep_sl w_keep_loc w_keep_agg List.length_nil List.length_cons List.nil_append List.cons_append List.append_nil List.getElem?_cons_zero List.getElem?_cons_succ List.getElem?_nil List.set_cons_zero List.set_cons_succ List.take_succ_cons List.take_zero List.drop_succ_cons List.drop_zero List.all_cons List.all_nil List.map_cons List.map_nil List.zip_cons_cons List.zip_nil_left List.zip_nil_right List.foldl_cons List.foldl_nil List.replicate_succ List.replicate_zero List.getD_cons_zero List.getD_cons_succ List.length_map List.isEmpty_nil List.isEmpty_cons Option.map_some Option.bind_some Option.map_none Option.some.injEq Blk.box.injEq V.agg.injEq Bool.and_true Bool.true_and Bool.not_true Bool.not_false Bool.or_true Bool.or_false Bool.true_or Bool.false_or true_and and_true ne_eq not_false_eq_true eq_self true_or or_true Bool.and_self if_true if_false Nat.add_zero Nat.zero_add Nat.sub_zero Nat.succ_ne_self Nat.lt_add_one Nat.le_refl decide_true decide_false Nat.succ_ne_zero Int.toNat_zero Int.toNat_one Int.toNat_natCast decide_eq_true_eq decide_eq_false_iff_not Nat.one_mul Nat.mul_one Nat.zero_lt_succ Nat.zero_lt_one Nat.zero_le Int.natCast_zero

end Go.Sim

namespace Go.Sim

/-! ## 20. Handing on the whole heap -/
mutual
theorem ren_self {f : Nat → RT} (hf : ∀ i, f i = .to i) : ∀ v : V, v.ren f = v
  | .agg cs => by rw [V.ren, rens_self hf cs]
  | .tup cs => by rw [V.ren, rens_self hf cs]
  | .iface t v => by rw [V.ren, ren_self hf v]
  | .fn k cs => by rw [V.ren, rens_self hf cs]
  | .ref id off len => by rw [V.ren, hf]
  | .ptr id i j => by rw [V.ren, hf]
  | .int .. => rfl
  | .bool .. => rfl
  | .str .. => rfl
  | .sl .. => rfl
  | .nil => rfl
  | .nili => rfl
  | .nilf => rfl
  | .loc .. => rfl
  | .undef => rfl
theorem rens_self {f : Nat → RT} (hf : ∀ i, f i = .to i) : ∀ l : List V, V.rens f l = l
  | [] => rfl
  | v :: r => by rw [V.rens, ren_self hf v, rens_self hf r]
end
theorem blk_ren_self {f : Nat → RT} (hf : ∀ i, f i = .to i) (k : Blk) : k.ren f = k := by
  cases k with
  | box e v => rw [Blk.ren, ren_self hf]
  | _ => rfl

def notDead : Blk → Bool
  | .dead => false
  | _ => true
/-- A heap that can be handed on as it is. -/
def okH (H : Heap) : Bool := H.all fun k => k.wf H.length && notDead k

theorem backF_range (n i : Nat) : backF (List.range n) n i = .to i := by
  unfold backF
  by_cases h : i < n
  · rw [List.getElem?_range h]
  · rw [List.getElem?_eq_none (by simpa using h)]
    simp only [List.length_range]
    congr 1
    omega

theorem mergeH_range {H H' : Heap} (h : H.length ≤ H'.length) : mergeH H (List.range H.length) H' = H' := by
  have hb := fun i => backF_range H.length i
  have hm : H'.map (Blk.ren (backF (List.range H.length) H.length)) = H' := by
    rw [List.map_congr_left (g := id) (fun k _ => blk_ren_self hb k)]; simp
  have hd : (H'.drop (List.range H.length).length).map (Blk.ren (backF (List.range H.length) H.length)) = H'.drop H.length := by
    rw [List.map_congr_left (g := id) (fun k _ => blk_ren_self hb k)]; simp
  unfold mergeH
  rw [hm, hd]
  have hs : setL H (List.range H.length) H' = H'.take H.length := by
    apply List.ext_getElem?
    intro i
    by_cases hi : i < H.length
    · have hk : H'[i]? = some (H'[i]'(by omega)) := List.getElem?_eq_getElem _
      rw [setL_in (List.range H.length) H' H i i _ List.nodup_range (List.getElem?_range hi) hk hi, List.getElem?_take_of_lt hi, hk]
    · rw [List.getElem?_eq_none (by rw [setL_length]; omega), List.getElem?_eq_none (by simp; omega)]
  rw [hs, List.take_append_drop]

theorem pCall_self {P : Program} {k : FuncId} {args : List V} {H : Heap} {K : V → Heap → Prop} (hw : V.wfs H.length args = true) (hH : okH H = true) (hct : Ct P k args H fun r H' => H.length ≤ H'.length ∧ K r H') : pCall P k args H K := by
  have hord : ∀ i, i < H.length → ((List.range H.length).map RT.to)[i]? = some (.to i) := fun i hi => by rw [List.getElem?_map, List.getElem?_range hi]; rfl
  have hlen : ((List.range H.length).map RT.to).length = H.length := by simp
  have htoF : ∀ i, i < H.length → toF ((List.range H.length).map .to) i = .to i := fun i hi => toF_some (hord i hi)
  have hk : ∀ k ∈ H, k.wf H.length = true ∧ notDead k = true := fun k hk => by
    have := List.all_eq_true.1 hH k hk
    simpa using this
  refine ⟨[], false, [], List.range H.length, args, H, List.nodup_range, fun k hk' e => ?_, ⟨hlen.symm, fun i k hik => ?_, fun i1 i2 j hne h1 h2 => ?_, fun h => (by cases h), fun _ id hid => by cases hid⟩, ?_, by simpa using hw, hct.mono ?_⟩
  · have := (hk k hk').2
    subst e; cases this
  · have hi := (List.getElem?_eq_some_iff.1 hik).1
    have hwf := (hk k (List.mem_of_getElem? hik)).1
    refine .inr (.inl ⟨i, k, hord i hi, hik, ?_, by rw [hlen]; exact hwf⟩)
    rw [frzL]
    cases k with
    | box e v => simp only [Blk.view, Blk.ren]; rw [view_none vwOf_nil, ren_id htoF v hwf]
    | _ => rfl
  · have e1 : ∀ i, ((List.range H.length).map RT.to)[i]? = some (.to j) → i = j := by
      intro i h
      have hi := (List.getElem?_eq_some_iff.1 h).1
      rw [hord i (by rw [hlen] at hi; exact hi)] at h
      cases h; rfl
    exact absurd ((e1 _ h1).trans (e1 _ h2).symm) hne
  · rw [frzL, map_view_nil, ← V.rens_map, rens_id htoF args hw]
  · rintro r H' ⟨hl, hK⟩
    refine ⟨fun h => (by cases h), ?_⟩
    rw [ren_self (backF_range _), frzL, mergeH_range hl]
    exact hK

theorem Ct.lenle {P k args H} {Q : V → Heap → Prop} (h : Ct P k args H Q) : Ct P k args H fun r H' => H.length ≤ H'.length ∧ Q r H' :=
  ⟨h.1, fun w A ρ us h1 h2 h3 => (h.2 w A ρ us h1 h2 h3).mono fun _ _ ⟨u, v, H', A', ρ', g1, g2, g3, g4, g5⟩ => ⟨u, v, H', A', ρ', g1, ⟨g5.len, g2⟩, g3, g4, g5⟩⟩

theorem pCall_me {P : Program} {k : FuncId} {args : List V} {H : Heap} {K : V → Heap → Prop} (hw : V.wfs H.length args = true) (hH : okH H = true) (hct : Ct P k args H K) : pCall P k args H K :=
  pCall_self hw hH hct.lenle

theorem pWk_me {vs : List V} {H : Heap} {K : List V → Heap → Prop} (hv : V.wfs H.length vs = true) (hH : okH H = true) (hK : K vs H) : pWk H.length vs H K := by
  refine pWk_same hv (List.all_eq_true.2 fun k hk => ?_) hK
  have := List.all_eq_true.1 hH k hk
  simp only [Bool.and_eq_true] at this
  exact this.1

mutual
theorem ren_inK {f : Nat → RT} : ∀ v : V, v.inK [] = true → v.ren f = v
  | .agg cs, h => by rw [V.inK] at h; rw [V.ren, rens_inK cs h]
  | .tup cs, h => by rw [V.inK] at h; rw [V.ren, rens_inK cs h]
  | .iface t v, h => by rw [V.inK] at h; rw [V.ren, ren_inK v h]
  | .fn k cs, h => by rw [V.inK] at h; rw [V.ren, rens_inK cs h]
  | .ref .., h => by cases h
  | .ptr .., h => by cases h
  | .int .., _ => rfl
  | .bool .., _ => rfl
  | .str .., _ => rfl
  | .sl .., _ => rfl
  | .nil, _ => rfl
  | .nili, _ => rfl
  | .nilf, _ => rfl
  | .loc .., _ => rfl
  | .undef, _ => rfl
theorem rens_inK {f : Nat → RT} : ∀ l : List V, V.inKs [] l = true → V.rens f l = l
  | [], _ => rfl
  | v :: r, h => by
    rw [V.inKs, Bool.and_eq_true] at h
    rw [V.rens, ren_inK v h.1, rens_inK r h.2]
end

/-- All is forgotten; nothing that goes on names a block. -/
theorem pWk_done {vs : List V} {H : Heap} {K : List V → Heap → Prop} (hs : V.inKs [] vs = true) (hK : K vs []) : pWk 0 vs H K := by
  refine pWk_keep [] [] (vs' := vs) (Hs := []) ?_ rfl ?_ hK
  · rw [frzL, map_view_nil, ← V.rens_map, rens_inK vs hs]
  · simp only [heldB, frzL, map_view_nil, hs, nodupB, preB, List.all_nil, Bool.and_true]

theorem pCall_pv {P : Program} {k : FuncId} {args : List V} {r : V} {H : Heap} {K : V → Heap → Prop} (hs : V.inKs [] args = true) (hr : r.inK [] = true) (hp : Pu P k args r) (hK : K r H) : pCall P k args H K := by
  refine pCall_use false [] [] [] (args' := args) (Hs := []) ?_ rfl ?_ (hp.mono ?_)
  · rw [frzL, map_view_nil, ← V.rens_map, rens_inK args hs]
  · simp only [heldB, frzL, map_view_nil, hs, nodupB, List.all_nil, Bool.and_true]
  · rintro v H' ⟨rfl, rfl⟩
    refine ⟨fun h => (by cases h), ?_⟩
    rw [ren_inK v hr, frzL, mergeH_none]
    exact hK

/-! ## 21. Lists -/
/-- The place of the first element that fits, or -1. -/
def idxI {α : Type} (p : α → Bool) (l : List α) : Int := if l.any p = true then (l.findIdx p : Int) else -1

theorem idxI_hit {α : Type} {p : α → Bool} {l : List α} {k : Nat} (hk : k < l.length) (h : p l[k] = true) (hno : ∀ j (hj : j < l.length), j < k → p l[j] = false) : idxI p l = k := by
  have h1 : l.any p = true := List.any_eq_true.2 ⟨_, List.getElem_mem hk, h⟩
  have h2 : l.findIdx p = k := (List.findIdx_eq hk).2 ⟨h, fun j hj => hno j (by omega) hj⟩
  unfold idxI
  rw [if_pos h1, h2]
theorem idxI_miss {α : Type} {p : α → Bool} {l : List α} (hno : ∀ j (hj : j < l.length), p l[j] = false) : idxI p l = -1 := by
  have h1 : ¬ l.any p = true := fun h => by
    obtain ⟨x, hx, hp⟩ := List.any_eq_true.1 h
    obtain ⟨i, hi, rfl⟩ := List.getElem_of_mem hx
    rw [hno i hi] at hp; cases hp
  unfold idxI
  rw [if_neg h1]
theorem idxI_ge {α : Type} {p : α → Bool} {l : List α} : decide (0 ≤ idxI p l) = l.any p := by
  unfold idxI
  by_cases h : l.any p = true
  · rw [if_pos h, h]; simp
  · rw [if_neg h]; simp at h ⊢; simpa using h

theorem idxI_nn {α : Type} {p : α → Bool} {l : List α} : (0 ≤ idxI p l) = (l.any p = true) := by
  rw [← idxI_ge, decide_eq_true_eq]

/-- Every element fits what stands before it. -/
def allPre {α : Type} (P : List α → α → Bool) (l : List α) : Bool := (List.range l.length).all fun k => match l[k]? with
  | some x => P (l.take k) x
  | none => true
theorem allPre_iff {α : Type} {P : List α → α → Bool} {l : List α} : allPre P l = true ↔ ∀ k (h : k < l.length), P (l.take k) l[k] = true := by
  unfold allPre
  rw [List.all_eq_true]
  constructor
  · intro h k hk
    have := h k (List.mem_range.2 hk)
    rw [List.getElem?_eq_getElem hk] at this
    exact this
  · intro h k hk
    have hk := List.mem_range.1 hk
    rw [List.getElem?_eq_getElem hk]
    exact h k hk
theorem allPre_false {α : Type} {P : List α → α → Bool} {l : List α} {k : Nat} (hk : k < l.length) (h : P (l.take k) l[k] = false) : allPre P l = false := by
  cases e : allPre P l with
  | false => rfl
  | true => rw [allPre_iff.1 e k hk] at h; cases h

def within (n lo hi : Int) : Bool := decide (lo ≤ n) && decide (n ≤ hi)

theorem wrapN {k : Nat} (h : k < 4611686018427387904) : IntKind.i64.wrap ((k : Int) + 1) = ((k + 1 : Nat) : Int) := by
  rw [wrap64 (by omega) (by omega)]; rfl

end Go.Sim

namespace Go.Sim

theorem pWk_take {n : Nat} {vs : List V} {H : Heap} {K : List V → Heap → Prop} (hb : (V.wfs n vs && (H.take n).all (Blk.wf n) && Nat.ble n H.length) = true) (hK : K vs (H.take n)) : pWk n vs H K := by
  simp only [Bool.and_eq_true] at hb
  obtain ⟨⟨hv, hb⟩, hl⟩ := hb
  have hl := Nat.le_of_ble_eq_true hl
  have hn : (H.take n).length = n := by simp; omega
  have := pWk_pre (vs := vs) (H1 := H.take n) (H2 := H.drop n) (K := K) (by rw [hn]; exact hv) (by rw [hn]; exact hb) hK
  rw [hn, List.take_append_drop] at this
  exact this

mutual
theorem ren_congr {n : Nat} {f g : Nat → RT} (h : ∀ i, i < n → f i = g i) : ∀ v : V, v.wf n = true → v.ren f = v.ren g
  | .agg cs, hv => by rw [V.wf] at hv; rw [V.ren, V.ren, rens_congr h cs hv]
  | .tup cs, hv => by rw [V.wf] at hv; rw [V.ren, V.ren, rens_congr h cs hv]
  | .iface t v, hv => by rw [V.wf] at hv; rw [V.ren, V.ren, ren_congr h v hv]
  | .fn k cs, hv => by rw [V.wf] at hv; rw [V.ren, V.ren, rens_congr h cs hv]
  | .ref id off len, hv => by simp only [V.wf, decide_eq_true_eq] at hv; rw [V.ren, V.ren, h id hv]
  | .ptr id i j, hv => by simp only [V.wf, decide_eq_true_eq] at hv; rw [V.ren, V.ren, h id hv]
  | .int .., _ => rfl
  | .bool .., _ => rfl
  | .str .., _ => rfl
  | .sl .., _ => rfl
  | .nil, _ => rfl
  | .nili, _ => rfl
  | .nilf, _ => rfl
  | .loc .., _ => rfl
  | .undef, _ => rfl
theorem rens_congr {n : Nat} {f g : Nat → RT} (h : ∀ i, i < n → f i = g i) : ∀ l : List V, V.wfs n l = true → V.rens f l = V.rens g l
  | [], _ => rfl
  | v :: r, hv => by
    simp only [V.wfs, Bool.and_eq_true] at hv
    rw [V.rens, V.rens, ren_congr h v hv.1, rens_congr h r hv.2]
end

theorem backF_in {ids : List Nat} {n i j : Nat} (h : ids[i]? = some j) : backF ids n i = .to j := by simp [backF, h]

theorem merge_held {H : Heap} {ids : List Nat} {args : List V} (hb : heldB H [] ids args = true) : mergeH H ids (heldH H [] ids) = H := by
  simp only [heldB, Bool.and_eq_true] at hb
  obtain ⟨⟨h1, h2⟩, _⟩ := hb
  have hnd := nodupB_nodup h1
  have hl : (heldH H [] ids).length = ids.length := by simp [heldH]
  have hview : ∀ k : Blk, k.view (vwOf H []) = k := fun k => by
    cases k with
    | box e v => rw [Blk.view, view_none vwOf_nil]
    | _ => rfl
  have hall : ∀ j ∈ ids, ∃ k, H[j]? = some k ∧ k.inK ids = true := fun j hj => by
    have := List.all_eq_true.1 h2 j hj
    split at this
    · rename_i k hk
      rw [hview] at this
      exact ⟨k, hk, this⟩
    · cases this
  unfold mergeH
  rw [List.drop_of_length_le (by omega), List.map_nil, List.append_nil]
  apply List.ext_getElem?
  intro j
  by_cases hj : j ∈ ids
  · obtain ⟨i, hi⟩ := List.getElem?_of_mem hj
    obtain ⟨k, hk, hin⟩ := hall j hj
    have hil := (List.getElem?_eq_some_iff.1 hi).1
    have hget : (heldH H [] ids)[i]? = some (k.ren (keepR ids)) := by
      unfold heldH
      rw [List.getElem?_map, hi]
      simp only [Option.map_some, hk, hview]
    have hs := setL_in ids ((heldH H [] ids).map (Blk.ren (backF ids H.length))) H i j ((k.ren (keepR ids)).ren (backF ids H.length)) hnd hi (by rw [List.getElem?_map, hget]; rfl) (List.getElem?_eq_some_iff.1 hk).1
    rw [hs, hk]
    obtain ⟨r1, r2⟩ := ren_blk_back hin
    have : (k.ren (keepR ids)).ren (backF ids H.length) = (k.ren (keepR ids)).ren (toF (ids.map .to)) := by
      have hag : ∀ i, i < ids.length → backF ids H.length i = toF (ids.map .to) i := fun i hi => by
        have hq : ids[i]? = some ids[i] := List.getElem?_eq_getElem hi
        rw [backF_in hq, toF_some (by rw [List.getElem?_map, hq]; rfl)]
      cases k with
      | box e v => simp only [Blk.ren]; rw [ren_congr hag _ r2]
      | _ => rfl
    rw [this, r1]
  · rw [setL_out _ _ _ _ hj]

/-- A call that leaves the blocks that it is handed as they were. -/
theorem pCall_look {P : Program} {k : FuncId} {args args' : List V} {H Hs : Heap} {K : V → Heap → Prop} {r : V} (ids : List Nat)
    (hct : Ct P k args' Hs (fun v H' => v = r ∧ H' = Hs)) (hv : args.map (·.ren (keepR ids)) = args') (hH : heldH H [] ids = Hs)
    (hb : (heldB H [] ids args && Hs.all notDead) = true) (hr : r.inK [] = true) (hK : K r H) : pCall P k args H K := by
  rw [Bool.and_eq_true] at hb
  refine pCall_use false [] [] ids (args' := args') (Hs := Hs) ?_ hH ?_ (hct.mono ?_)
  · rw [frzL, map_view_nil]; exact hv
  · rw [frzL, Bool.and_eq_true, Bool.and_eq_true]
    refine ⟨⟨hb.1, ?_⟩, rfl⟩
    refine List.all_eq_true.2 fun k hk => ?_
    have := List.all_eq_true.1 hb.2 k hk
    cases k <;> first | rfl | exact this
  · rintro v H' ⟨rfl, rfl⟩
    refine ⟨fun h => (by cases h), ?_⟩
    rw [ren_inK v hr, frzL, ← hH, merge_held hb.1]
    exact hK

/-- The same, the contract told first. -/
theorem pCall_with {P : Program} {k : FuncId} {args : List V} {H : Heap} {K : V → Heap → Prop} (lend : Bool) (fl vw ids : List Nat) {args' : List V} {Hs : Heap} {Q : V → Heap → Prop}
    (hct : Ct P k args' Hs Q)
    (hv : (args.map (·.view (vwOf (frzL H fl) vw))).map (·.ren (keepR ids)) = args') (hH : heldH (frzL H fl) vw ids = Hs)
    (hb : (heldB (frzL H fl) vw ids args && Hs.all (fun k => match k with | .dead => false | _ => true) &&
      (match lend with
      | true => vw.all (fun id => !(ids.contains id))
      | false => vw.all (fun id => match (frzL H fl)[id]? with | some (.sl true _ _ _) => false | _ => true))) = true)
    (hK : ∀ r H', Q r H' → (lend = true → r.flat = true ∧ ∀ k ∈ H', k.flat = true) ∧ K (r.ren (backF ids H.length)) (mergeH (frzL H fl) ids H')) : pCall P k args H K :=
  pCall_use lend fl vw ids hv hH hb (hct.mono hK)

/-! ## 22. Names replaced, run by simp -/
theorem ren_agg {f cs} : V.ren f (.agg cs) = .agg (V.rens f cs) := by rw [V.ren]
theorem ren_tup {f cs} : V.ren f (.tup cs) = .tup (V.rens f cs) := by rw [V.ren]
theorem ren_fn {f k cs} : V.ren f (.fn k cs) = .fn k (V.rens f cs) := by rw [V.ren]
theorem ren_int {f k n} : V.ren f (.int k n) = .int k n := rfl
theorem ren_bool {f b} : V.ren f (.bool b) = .bool b := rfl
theorem ren_str {f b} : V.ren f (.str b) = .str b := rfl
theorem ren_sl {f nn s xs} : V.ren f (.sl nn s xs) = .sl nn s xs := rfl
theorem ren_nil {f} : V.ren f .nil = .nil := rfl
theorem ren_loc {f s r j} : V.ren f (.loc s r j) = .loc s r j := rfl
def refTo (r : RT) (off len : Nat) : V := match r with
  | .to j => .ref j off len
  | .nil s => if off = 0 ∧ len = 0 then .sl false s [] else .bad
theorem ren_ref {f id o l} : V.ren f (.ref id o l) = refTo (f id) o l := by
  rw [V.ren]; unfold refTo; cases f id <;> rfl
def ptrTo (r : RT) (i j : Nat) : V := match r with
  | .to id => .ptr id i j
  | .nil _ => .bad
theorem ren_ptr {f id o l} : V.ren f (.ptr id o l) = ptrTo (f id) o l := by
  rw [V.ren]; unfold ptrTo; cases f id <;> rfl
theorem refTo_to {j o l} : refTo (.to j) o l = .ref j o l := rfl
theorem ptrTo_to {j o l} : ptrTo (.to j) o l = .ptr j o l := rfl
theorem rens_nil {f} : V.rens f [] = [] := rfl
theorem rens_cons {f v r} : V.rens f (v :: r) = v.ren f :: V.rens f r := rfl
theorem keepR_eq {keep id} : keepR keep id = .to (posOf keep id) := rfl
theorem posOf_cons {k r id} : posOf (k :: r) id = bif Nat.beq k id then 0 else posOf r id + 1 := by
  rw [posOf]; cases Nat.beq k id <;> rfl
def backT (o : Option Nat) (n m i : Nat) : RT := match o with
  | some j => .to j
  | none => .to (n + (i - m))
theorem backF_eq {ids n i} : backF ids n i = backT ids[i]? n ids.length i := by unfold backF backT; cases ids[i]? <;> rfl
theorem backT_some {j n m i} : backT (some j) n m i = .to j := rfl
theorem backT_none {n m i} : backT none n m i = .to (n + (i - m)) := rfl
theorem mergeH_eq {H ids H'} : mergeH H ids H' = setL H ids (H'.map (Blk.ren (backF ids H.length))) ++ (H'.drop ids.length).map (Blk.ren (backF ids H.length)) := rfl
theorem setL_nil {H ks} : setL H [] ks = H := by rw [setL]
theorem setL_cons {H id ids k ks} : setL H (id :: ids) (k :: ks) = setL (H.set id k) ids ks := rfl
theorem bren_box {f e v} : Blk.ren f (.box e v) = .box e (v.ren f) := rfl
theorem bren_sl {f nn e s rows} : Blk.ren f (.sl nn e s rows) = .sl nn e s rows := rfl
theorem bren_fz {f nn s rows} : Blk.ren f (.fz nn s rows) = .fz nn s rows := rfl
theorem bren_dead {f} : Blk.ren f .dead = .dead := rfl
theorem view_agg {f cs} : V.view f (.agg cs) = .agg (V.views f cs) := by rw [V.view]
theorem view_tup {f cs} : V.view f (.tup cs) = .tup (V.views f cs) := by rw [V.view]
theorem view_int {f k n} : V.view f (.int k n) = .int k n := rfl
theorem view_bool {f b} : V.view f (.bool b) = .bool b := rfl
theorem view_str {f b} : V.view f (.str b) = .str b := rfl
theorem view_sl {f nn s xs} : V.view f (.sl nn s xs) = .sl nn s xs := rfl
theorem view_ptr {f i o l} : V.view f (.ptr i o l) = .ptr i o l := rfl
theorem view_fn {f k cs} : V.view f (.fn k cs) = .fn k cs := rfl
theorem views_nil {f} : V.views f [] = [] := rfl
theorem views_cons {f v r} : V.views f (v :: r) = v.view f :: V.views f r := rfl
theorem nthV_0 {v r} : nthV (v :: r) 0 = v := rfl
theorem beq_self (n : Nat) : Nat.beq n n = true := Nat.beq_refl n

def optL (o : Option (List Int)) (K : List Int → Prop) : Prop := match o with
  | some ns => K ns
  | none => False
theorem optL_cg {o o' : Option (List Int)} {K} (h : o = o') : optL o K = optL o' K := by subst h; rfl
theorem optL_some {ns K} : optL (some ns) K = K ns := rfl
theorem w_cb {v H} {K : V → Prop} : pConvBytes v H K = optE (elems H v) fun s xs => s = 1 ∧ optL (bytesV xs) fun ns => K (.str (bytesOf ns)) := by
  unfold pConvBytes optE optL
  generalize elems H v = o
  cases o with
  | none => rfl
  | some p => obtain ⟨s, xs⟩ := p; simp only; all_goals (cases bytesV xs <;> rfl)
theorem bytesV_nil : bytesV [] = some [] := rfl
def consO (n : Int) (o : Option (List Int)) : Option (List Int) := o.map (n :: ·)
theorem bytesV_cons {n r} : bytesV (.int .u8 n :: r) = (bytesV r).map (n :: ·) := by
  rw [bytesV]; cases bytesV r <;> rfl
theorem w_keep_str {s H H'} : keepV (.str s) H H' = True := rfl
theorem w_keep_bool {s H H'} : keepV (.bool s) H H' = True := rfl
attribute [go_sem] w_keep_str w_keep_bool
attribute [congr] optL_cg
attribute [go_sem] optL_some w_cb bytesV_nil bytesV_cons
attribute [go_sem] false_implies true_implies Bool.true_eq_false Bool.false_eq_true
attribute [go_sem] ren_agg ren_tup ren_fn ren_int ren_bool ren_str ren_sl ren_nil ren_loc ren_ref ren_ptr refTo_to ptrTo_to rens_nil rens_cons keepR_eq backF_eq backT_some backT_none mergeH_eq setL_nil setL_cons bren_box bren_sl bren_fz bren_dead
  view_agg view_tup view_int view_bool view_str view_sl view_ptr view_fn views_nil views_cons nthV_0

end Go.Sim

namespace Go.Sim

/-! ## 23. A contract weakened: blocks forgotten, given up, renumbered -/
theorem Ct_wk {P : Program} {k : FuncId} {args : List V} {H : Heap} {Q : V → Heap → Prop} (h : Ct P k args H fun v H' => pWk H.length [v] H' fun ws Hs => Q (nthV ws 0) Hs) : Ct P k args H Q := by
  refine ⟨h.1, fun w A ρ us h1 h2 h3 => (h.2 w A ρ us h1 h2 h3).mono ?_⟩
  rintro e w' ⟨u, v, H', A', ρ', rfl, hk, hr, hv, he⟩
  obtain ⟨A2, ρ2, vs', Hs, q1, q2, q3, q4, q5⟩ := pWk_sound hr he hk
  refine ⟨u, _, Hs, A2, ρ2, rfl, q1, q2, ?_, q3⟩
  have h0 : vs'[0]? = some (nthV vs' 0) := by
    cases vs' with
    | nil => simp at q4
    | cons v r => rfl
  exact q5 0 _ _ _ rfl h0 hv

/-- A fresh slice, given up. -/
theorem Pu_of_fresh {P : Program} {k : FuncId} {args : List V} {nn : Bool} {e : TypeId} {s n : Nat} {rows : List V} (hn : rows.length = n)
    (h : Ct P k args [] fun v H => v = .ref 0 0 n ∧ H = [.sl nn e s rows]) : Pu P k args (.sl nn s rows) := by
  refine Ct_wk (h.mono ?_)
  rintro v H' ⟨rfl, rfl⟩
  subst hn
  refine pWk_all [0] (vs' := [.sl nn s rows]) ?_ rfl ⟨rfl, rfl⟩
  simp [frzL, frz1, vwOf, V.view]

/-- A nil slice, as a block of its own. -/
theorem pWk_nilref {s : Nat} {H : Heap} {K : List V → Heap → Prop} (e : TypeId) (hs : 0 < s) (hK : K [.ref 0 0 0] [.sl false e s []]) : pWk 0 [.sl false s []] H K := by
  refine ⟨[], [], [.nil s], [.ref 0 0 0], [.sl false e s []], ⟨rfl, fun i k hk => ?_, fun i1 i2 j _ h1 => ?_, fun h => (by cases h), fun _ id hid => by cases hid⟩, Nat.zero_le _, fun i hi => by omega, ?_, rfl, hK⟩
  · cases i with
    | zero => simp at hk; subst hk; exact .inr (.inr ⟨s, e, rfl, rfl, hs⟩)
    | succ i => simp at hk
  · cases i1 with
    | zero => simp at h1
    | succ i => simp at h1
  · simp [frzL, view_none vwOf_nil, V.ren, toF]

/-- A call of a function that looks at immutable values and makes new blocks. -/
theorem pCall_new {P : Program} {k : FuncId} {args : List V} {H : Heap} {K : V → Heap → Prop} {Q : V → Heap → Prop} (hct : Ct P k args [] Q) (hs : V.inKs [] args = true)
    (hK : ∀ r H', Q r H' → K (r.ren (backF [] H.length)) (H ++ H'.map (Blk.ren (backF [] H.length)))) : pCall P k args H K := by
  refine pCall_use false [] [] [] (args' := args) (Hs := []) ?_ rfl ?_ (hct.mono ?_)
  · rw [frzL, map_view_nil, ← V.rens_map, rens_inK args hs]
  · simp only [heldB, frzL, map_view_nil, hs, nodupB, List.all_nil, Bool.and_true]
  · intro v H' hq
    refine ⟨fun h => (by cases h), ?_⟩
    rw [frzL, mergeH_new]
    exact hK _ _ hq

/-- The same, what goes on computed. -/
theorem pWk_kp {n0 : Nat} {vs : List V} {H : Heap} {K : List V → Heap → Prop} (fl keep : List Nat) (hb : (heldB (frzL H fl) fl keep vs && preB n0 0 keep) = true)
    (hK : K ((vs.map (·.view (vwOf (frzL H fl) fl))).map (·.ren (keepR keep))) (heldH (frzL H fl) fl keep)) : pWk n0 vs H K := pWk_keep fl keep rfl rfl hb hK

/-! ### blocks moved behind those that stood at the beginning -/
mutual
theorem back_gen {K : List Nat} {g : Nat → Nat} {order : List RT} (hg : ∀ id, K.contains id = true → toF order (g id) = .to id ∧ g id < order.length) : ∀ v : V, v.inK K = true → (v.ren (fun id => .to (g id))).ren (toF order) = v ∧ (v.ren (fun id => .to (g id))).wf order.length = true
  | .agg cs, h => by
    rw [V.inK] at h
    obtain ⟨h1, h2⟩ := backs_gen hg cs h
    exact ⟨by rw [V.ren, V.ren, h1], by rw [V.ren, V.wf, h2]⟩
  | .tup cs, h => by
    rw [V.inK] at h
    obtain ⟨h1, h2⟩ := backs_gen hg cs h
    exact ⟨by rw [V.ren, V.ren, h1], by rw [V.ren, V.wf, h2]⟩
  | .iface t v, h => by
    rw [V.inK] at h
    obtain ⟨h1, h2⟩ := back_gen hg v h
    exact ⟨by rw [V.ren, V.ren, h1], by rw [V.ren, V.wf, h2]⟩
  | .fn k cs, h => by
    rw [V.inK] at h
    obtain ⟨h1, h2⟩ := backs_gen hg cs h
    exact ⟨by rw [V.ren, V.ren, h1], by rw [V.ren, V.wf, h2]⟩
  | .ref id off len, h => by
    rw [V.inK] at h
    exact ⟨by simp only [V.ren, (hg id h).1], by simp only [V.ren, V.wf, decide_eq_true_eq]; exact (hg id h).2⟩
  | .ptr id i j, h => by
    rw [V.inK] at h
    exact ⟨by simp only [V.ren, (hg id h).1], by simp only [V.ren, V.wf, decide_eq_true_eq]; exact (hg id h).2⟩
  | .int .., _ => ⟨rfl, rfl⟩
  | .bool .., _ => ⟨rfl, rfl⟩
  | .str .., _ => ⟨rfl, rfl⟩
  | .sl .., _ => ⟨rfl, rfl⟩
  | .nil, _ => ⟨rfl, rfl⟩
  | .nili, _ => ⟨rfl, rfl⟩
  | .nilf, _ => ⟨rfl, rfl⟩
  | .loc .., _ => ⟨rfl, rfl⟩
  | .undef, _ => ⟨rfl, rfl⟩
theorem backs_gen {K : List Nat} {g : Nat → Nat} {order : List RT} (hg : ∀ id, K.contains id = true → toF order (g id) = .to id ∧ g id < order.length) : ∀ l : List V, V.inKs K l = true → V.rens (toF order) (V.rens (fun id => .to (g id)) l) = l ∧ V.wfs order.length (V.rens (fun id => .to (g id)) l) = true
  | [], _ => ⟨rfl, rfl⟩
  | v :: r, h => by
    rw [V.inKs, Bool.and_eq_true] at h
    obtain ⟨h1, h2⟩ := back_gen hg v h.1
    obtain ⟨h3, h4⟩ := backs_gen hg r h.2
    exact ⟨by rw [V.rens, V.rens, h1, h3], by rw [V.rens, V.wfs, h2, h4]; rfl⟩
end

/-- Where a block goes: behind the first `n0`, if it is among `keep`. -/
def mvG (n0 : Nat) (keep : List Nat) (id : Nat) : Nat := match keep.contains id with
  | true => n0 + posOf keep id
  | false => id
def mvR (n0 : Nat) (keep : List Nat) : Nat → RT := fun id => .to (mvG n0 keep id)
def mvH (n0 : Nat) (H : Heap) (keep : List Nat) : Heap :=
  (List.range n0).map (fun j => match keep.contains j with
    | true => Blk.dead
    | false => match H[j]? with
      | some k => k.ren (mvR n0 keep)
      | none => .dead) ++
  keep.map fun j => match H[j]? with
    | some k => k.ren (mvR n0 keep)
    | none => .dead
def mvB (n0 : Nat) (H : Heap) (keep : List Nat) (vs : List V) : Bool :=
  nodupB keep && Nat.ble n0 H.length && (List.range n0 ++ keep).all (fun j => match H[j]? with | some k => k.inK (List.range n0 ++ keep) | none => false) && V.inKs (List.range n0 ++ keep) vs

theorem pWk_mv {n0 : Nat} {vs : List V} {H : Heap} {K : List V → Heap → Prop} (keep : List Nat) (hb : mvB n0 H keep vs = true)
    (hK : K (vs.map (·.ren (mvR n0 keep))) (mvH n0 H keep)) : pWk n0 vs H K := by
  simp only [mvB, Bool.and_eq_true] at hb
  obtain ⟨⟨⟨h1, h2⟩, h3⟩, h4⟩ := hb
  have hnd := nodupB_nodup h1
  let order := (List.range n0 ++ keep).map RT.to
  have hlen : order.length = n0 + keep.length := by simp [order]
  have hfst : ∀ i, i < n0 → order[i]? = some (.to i) := fun i hi => by
    simp only [order]
    rw [List.getElem?_map, List.getElem?_append_left (by simpa using hi), List.getElem?_range hi]; rfl
  have hsnd : ∀ (i : Nat) j, keep[i]? = some j → order[n0 + i]? = some (.to j) := fun i j hi => by
    simp only [order]
    rw [List.getElem?_map, List.getElem?_append_right (by simp)]
    simp [hi]
  have hg : ∀ id, (List.range n0 ++ keep).contains id = true → toF order (mvG n0 keep id) = .to id ∧ mvG n0 keep id < order.length := by
    intro id hid
    unfold mvG
    cases hk : keep.contains id with
    | true => exact ⟨toF_some (hsnd _ _ (posOf_get hk)), by have := posOf_lt hk; simp only; omega⟩
    | false =>
      have : id < n0 := by
        have := List.contains_iff_mem.1 hid
        rcases List.mem_append.1 this with h | h
        · exact List.mem_range.1 h
        · rw [List.contains_iff_mem.2 h] at hk; cases hk
      exact ⟨toF_some (hfst id this), by simp only; omega⟩
  have hblk : ∀ j ∈ List.range n0 ++ keep, ∃ k, H[j]? = some k ∧ (k.ren (mvR n0 keep)).ren (toF order) = k ∧ (k.ren (mvR n0 keep)).wf order.length = true := by
    intro j hj
    have := List.all_eq_true.1 h3 j hj
    split at this
    · rename_i k hk
      refine ⟨k, hk, ?_⟩
      cases k with
      | box e v =>
        obtain ⟨r1, r2⟩ := back_gen hg v this
        exact ⟨congrArg (Blk.box e) r1, r2⟩
      | _ => exact ⟨rfl, rfl⟩
    · cases this
  have hview : ∀ k : Blk, k.view (vwOf H []) = k := fun k => by
    cases k with
    | box e v => rw [Blk.view, view_none vwOf_nil]
    | _ => rfl
  have hget : ∀ (i : Nat) k, (mvH n0 H keep)[i]? = some k → k = .dead ∨ ∃ j k', order[i]? = some (.to j) ∧ H[j]? = some k' ∧ k' = k.ren (toF order) ∧ k.wf order.length = true := by
    intro i k hk
    unfold mvH at hk
    by_cases hi : i < n0
    · rw [List.getElem?_append_left (by simpa using hi), List.getElem?_map, List.getElem?_range hi] at hk
      simp only [Option.map_some, Option.some.injEq] at hk
      split at hk
      · exact .inl hk.symm
      · obtain ⟨k', e1, e2, e3⟩ := hblk i (List.mem_append_left _ (List.mem_range.2 hi))
        rw [e1] at hk
        subst hk
        exact .inr ⟨i, k', hfst i hi, e1, e2.symm, e3⟩
    · rw [List.getElem?_append_right (by simp; omega), List.getElem?_map] at hk
      obtain ⟨j, hj, hk⟩ := Option.map_eq_some_iff.1 hk
      simp only [List.length_map, List.length_range] at hj
      obtain ⟨k', e1, e2, e3⟩ := hblk j (List.mem_append_right _ (List.mem_of_getElem? hj))
      rw [e1] at hk
      subst hk
      refine .inr ⟨j, k', ?_, e1, e2.symm, e3⟩
      have := hsnd _ _ hj
      rw [show n0 + (i - n0) = i by omega] at this
      exact this
  refine ⟨[], [], order, _, _, ⟨by rw [hlen]; simp [mvH], fun i k hk => ?_, fun i1 i2 j hne g1 g2 => ?_, fun h => (by cases h), fun _ id hid => by cases hid⟩, by omega, hfst, ?_, ?_, hK⟩
  · rcases hget i k hk with h | ⟨j, k', e1, e2, e3, e4⟩
    · exact .inl h
    · exact .inr (.inl ⟨j, k', e1, by rw [frzL]; exact e2, by rw [frzL, hview]; exact e3, e4⟩)
  · have place : ∀ i, order[i]? = some (.to j) → (i < n0 ∧ i = j) ∨ (n0 ≤ i ∧ keep[i - n0]? = some j) := by
      intro i h
      by_cases hi : i < n0
      · rw [hfst i hi] at h; cases h; exact .inl ⟨hi, rfl⟩
      · refine .inr ⟨by omega, ?_⟩
        simp only [order] at h
        rw [List.getElem?_map, List.getElem?_append_right (by simp; omega)] at h
        obtain ⟨j', h5, h6⟩ := Option.map_eq_some_iff.1 h
        cases h6
        simpa using h5
    have dead : ∀ i i', i < n0 → i = j → n0 ≤ i' → keep[i' - n0]? = some j → (mvH n0 H keep)[i]? = some .dead := by
      intro i i' hi e _ hk
      subst e
      unfold mvH
      rw [List.getElem?_append_left (by simpa using hi), List.getElem?_map, List.getElem?_range hi]
      simp only [Option.map_some, Option.some.injEq]
      rw [List.contains_iff_mem.2 (List.mem_of_getElem? hk)]
    rcases place _ g1 with ⟨a1, a2⟩ | ⟨a1, a2⟩ <;> rcases place _ g2 with ⟨b1, b2⟩ | ⟨b1, b2⟩
    · exact absurd (a2.trans b2.symm) hne
    · exact .inl (dead _ _ a1 a2 b1 b2)
    · exact .inr (dead _ _ b1 b2 a1 a2)
    · have l1 := (List.getElem?_eq_some_iff.1 a2).1
      have := (List.getElem?_inj l1 hnd).1 (a2.trans b2.symm)
      omega
  · have := backs_gen hg vs h4
    rw [frzL, map_view_nil, ← V.rens_map, ← V.rens_map]
    exact this.1.symm
  · have := backs_gen hg vs h4
    rw [← V.rens_map]
    exact this.2

theorem Ct_of_pCall {P : Program} {k : FuncId} {args : List V} {H : Heap} {Q : V → Heap → Prop} (h : pCall P k args H Q) : Ct P k args H Q := by
  have hc : callable P k = true := by
    obtain ⟨fl, lend, vw, ids, args', Hs, _, _, _, _, _, h6⟩ := h
    exact h6.1
  exact ⟨hc, fun w A ρ us h1 h2 h3 => (sound_call h1 h2 h3 h).2⟩

/-- A call of a function that looks at immutable values; of the blocks `vw` it sees the rows. -/
theorem pCall_see {P : Program} {k : FuncId} {args args' : List V} {r : V} {H : Heap} {K : V → Heap → Prop} (vw : List Nat) (hp : Pu P k args' r) (hv : args.map (·.view (vwOf H vw)) = args') (hs : V.inKs [] args' = true) (hr : r.inK [] = true) (hf : r.flat = true)
    (hK : K r H) : pCall P k args H K := by
  refine pCall_use true [] vw [] (args' := args') (Hs := []) ?_ rfl ?_ (hp.mono ?_)
  · rw [frzL, hv, ← V.rens_map, rens_inK args' hs]
  · simp only [heldB, frzL, hv, hs, nodupB, List.all_nil, Bool.and_true]
    simp
  · rintro v H' ⟨rfl, rfl⟩
    refine ⟨fun _ => ⟨hf, fun k hk => by cases hk⟩, ?_⟩
    rw [ren_inK v hr, frzL, mergeH_none]
    exact hK

/-! ### a list whose beginning is changed -/
def mapTo {α : Type} (f : α → α) (k : Nat) (l : List α) : List α := (l.take k).map f ++ l.drop k
theorem mapTo_zero {α : Type} {f : α → α} {l : List α} : mapTo f 0 l = l := by simp [mapTo]
theorem mapTo_len {α : Type} {f : α → α} {k : Nat} {l : List α} : (mapTo f k l).length = l.length := by
  simp [mapTo]; omega
theorem mapTo_all {α : Type} {f : α → α} {k : Nat} {l : List α} (h : l.length ≤ k) : mapTo f k l = l.map f := by
  simp [mapTo, List.take_of_length_le h, List.drop_of_length_le h]
theorem mapTo_get {α : Type} {f : α → α} {k : Nat} {l : List α} (h : k < l.length) : (mapTo f k l)[k]? = some l[k] := by
  unfold mapTo
  rw [List.getElem?_append_right (by simp; omega)]
  simp only [List.length_map, List.length_take]
  rw [Nat.min_eq_left (by omega), Nat.sub_self, List.getElem?_drop]
  simp [h]
theorem mapTo_set {α : Type} {f : α → α} {k : Nat} {l : List α} (h : k < l.length) : (mapTo f k l).set k (f l[k]) = mapTo f (k + 1) l := by
  unfold mapTo
  rw [List.set_append_right _ _ (by simp; omega)]
  simp only [List.length_map, List.length_take]
  rw [Nat.min_eq_left (by omega), Nat.sub_self, List.take_succ_eq_append_getElem h, List.map_append, List.append_assoc]
  congr 1
  rw [List.drop_eq_getElem_cons h]
  rfl
theorem mapTo_skip {α : Type} {f : α → α} {k : Nat} {l : List α} (h : k < l.length) (hf : f l[k] = l[k]) : mapTo f (k + 1) l = mapTo f k l := by
  rw [← mapTo_set h, hf]
  apply List.ext_getElem?
  intro i
  by_cases e : k = i
  · subst e
    rw [List.getElem?_set_self (by rw [mapTo_len]; exact h), mapTo_get h]
  · rw [List.getElem?_set_ne e]
theorem mapTo_map {α β : Type} {f : α → α} {enc : α → β} {k : Nat} {l : List α} (i : Nat) : ((mapTo f k l).map enc)[i]? = ((mapTo f k l)[i]?).map enc := List.getElem?_map

end Go.Sim
