/- The plain law of FnWithdrawals: what holds of drawn books, withdrawals and points. -/
import Derived.Test.YtahdgiaddhoaoaaConG
import Derived.Test.YtahdgiaddhoaoaaConA

set_option maxRecDepth 100000
set_option linter.unusedSimpArgs false
set_option linter.unusedVariables false
namespace Go.Sim
open Go.Proofs

theorem tname_ok : ∀ i : Fin 5, isName (tname i) = true := by decide
theorem tname_ne : ∀ i j : Fin 5, i ≠ j → (tname i == tname j) = false := by decide
theorem tname_size {i : Nat} : (tname i).size = 2 := by
  have h1 : (digitS i).size = 1 := by simp [digitS]; rfl
  have h2 : (tname i).size = 1 + (digitS i).size := by simp [tname]; rfl
  omega

theorem good_sized {n op : Nat} {b : Book} (hb : BookG n op b) (hn : n ≤ 8) : Sized b := by
  have h1 := hb.field.1
  refine ⟨by omega, fun t ht => ?_, ?_, ?_, by have := hb.fairl; omega, by have := hb.takenl; omega⟩
  · obtain ⟨turn, _, _, h⟩ := hb.field.2
    obtain ⟨i, hi⟩ := List.getElem?_of_mem ht
    rw [(h i t hi).1, tname_size]; decide
  · obtain ⟨mid, h, _, h3, _⟩ := hb.rules.lad
    rw [h]; simp; omega
  · have := GM_len hb.games
    have e := prs_len (b := n)
    have : n * n ≤ 64 := Nat.mul_le_mul (show n ≤ 8 by omega) (show n ≤ 8 by omega)
    omega
theorem good_nils {n op : Nat} {b : Book} (hb : BookG n op b) : Nils b := by
  obtain ⟨h1, h2, h3, h4⟩ := hb.nns
  have no : ∀ {x : Bool} {p : Prop}, x = true → x = false → p := fun e h => by rw [e] at h; cases h
  exact ⟨no h1, no hb.rules.nn, no h2, no h3, no h4⟩

theorem GM_get : ∀ {gs : List Game} {ps : List (Int × Int)} {k : Nat} {g : Game}, GM gs ps → gs[k]? = some g → ∃ p, ps[k]? = some p ∧ gameFor p g
  | [], _, k, g, _, hg => by simp at hg
  | g :: gs, p :: ps, 0, _, h, hg => by simp at hg; subst hg; exact ⟨p, rfl, h.1⟩
  | g0 :: gs, p0 :: ps, k + 1, g, h, hg => GM_get (gs := gs) (ps := ps) (k := k) h.2 (by simpa using hg)
  | _ :: _, [], _, _, h, _ => h.elim
theorem GM_get2 : ∀ {gs : List Game} {ps : List (Int × Int)} {k : Nat} {p : Int × Int}, GM gs ps → ps[k]? = some p → ∃ g, gs[k]? = some g ∧ gameFor p g
  | _, [], k, g, _, hg => by simp at hg
  | g :: gs, p :: ps, 0, _, h, hg => by simp at hg; subst hg; exact ⟨g, rfl, h.1⟩
  | g0 :: gs, p0 :: ps, k + 1, g, h, hg => GM_get2 (gs := gs) (ps := ps) (k := k) h.2 (by simpa using hg)
  | [], _ :: _, _, _, h, _ => h.elim

theorem prs_mem : ∀ {n : Nat} {p : Int × Int}, p ∈ prs n → 0 ≤ p.1 ∧ p.1 < p.2 ∧ p.2 < n
  | 0, p, h => by simp [prs] at h
  | b + 1, p, h => by
    rcases List.mem_append.1 h with h | h
    · have := prs_mem h; omega
    · simp only [row, List.mem_map, List.mem_range] at h
      obtain ⟨x, hx, rfl⟩ := h
      simp only; omega
theorem prs_nodup : ∀ {n : Nat}, (prs n).Nodup
  | 0 => by simp [prs]
  | b + 1 => by
    show (prs b ++ row b b).Nodup
    rw [List.nodup_append]
    refine ⟨prs_nodup, ?_, ?_⟩
    · unfold row
      refine List.Pairwise.map _ (fun a c h => ?_) List.nodup_range
      intro e; injection e with e1 _; omega
    · intro a ha c hc e
      subst e
      have := prs_mem ha
      simp only [row, List.mem_map, List.mem_range] at hc
      obtain ⟨x, _, rfl⟩ := hc
      simp only at this; omega
theorem prs_team : ∀ {n : Nat} {t : Nat}, 2 ≤ n → t < n → ∃ p ∈ prs n, p.1 = t ∨ p.2 = t
  | 0, t, h, _ => by omega
  | b + 1, t, h, ht => by
    by_cases hb : t < b
    · exact ⟨((t : Int), (b : Int)), List.mem_append_right _ (List.mem_map.2 ⟨t, List.mem_range.2 hb, rfl⟩), .inl rfl⟩
    · have : t = b := by omega
      subst this
      exact ⟨((0 : Int), (t : Int)), List.mem_append_right _ (List.mem_map.2 ⟨0, List.mem_range.2 (by omega), rfl⟩), .inr rfl⟩

theorem gameFor_ok {n : Nat} {p : Int × Int} {g : Game} (hn : 2 ≤ n) (hn8 : n ≤ 8) (hp : 0 ≤ p.1 ∧ p.1 < p.2 ∧ p.2 < n) (h : gameFor p g) : gameOk n g = true := by
  obtain ⟨h1, h2, h3, h4, h5, h6, h7, h8⟩ := h
  simp only [gameOk, within, Bool.and_eq_true, decide_eq_true_eq, bne_iff_ne, beq_iff_eq]
  by_cases hs : g.st = 1
  · rw [if_pos hs]; omega
  · rw [if_neg hs]; have := h8 hs; omega

theorem good_ok {n op : Nat} {b : Book} (hb : BookG n op b) (hn : 3 ≤ n) (hn5 : n ≤ 5) : bookOk b = true := by
  obtain ⟨hfl, turn, ht0, ht1, hf⟩ := hb.field
  have field : fieldOk b.field = true := by
    unfold fieldOk
    rw [Bool.and_eq_true]
    refine ⟨allPre_iff.2 fun k hk => ?_, by simp [within]; omega⟩
    obtain ⟨f1, f2, f3, f4⟩ := hf k _ (List.getElem?_eq_getElem hk)
    have hk5 : k < 5 := by omega
    have hm : 0 ≤ ((k : Int) + turn) % n ∧ ((k : Int) + turn) % n < n := ⟨Int.emod_nonneg _ (by omega), Int.emod_lt_of_pos _ (by omega)⟩
    simp only [Bool.and_eq_true, Bool.not_eq_true']
    refine ⟨?_, List.any_eq_false.2 fun x hx => ?_⟩
    · simp only [teamOk, Bool.and_eq_true]
      refine ⟨⟨?_, by simp [within]; omega⟩, by simp [within]; omega⟩
      rw [f1]; exact tname_ok ⟨k, hk5⟩
    · obtain ⟨j, hj, rfl⟩ := List.getElem_of_mem hx
      rw [List.getElem_take]
      have hjk : j < k := by simp at hj; omega
      obtain ⟨e1, e2, e3, e4⟩ := hf j _ (List.getElem?_eq_getElem (show j < b.field.length by omega))
      have hne := tname_ne ⟨j, by omega⟩ ⟨k, hk5⟩ (by intro h; injection h; omega)
      have hsd : (b.field[j]'(by omega)).seed ≠ b.field[k].seed := by
        rw [e4, f4]
        rcases (by omega : n = 3 ∨ n = 4 ∨ n = 5) with rfl | rfl | rfl <;> omega
      simp only [clash, Bool.or_eq_true, not_or]
      refine ⟨?_, by simpa using hsd⟩
      rw [e1, f1, Bool.not_eq_true]; exact hne
  have rules : rulesOk b.rules = true := by
    obtain ⟨h1, h2, h3, h4, mid, h5, h6, h7, h8⟩ := hb.rules
    unfold rulesOk
    rw [h5]
    simp only [Bool.and_eq_true, decide_eq_true_eq]
    refine ⟨⟨allPre_iff.2 fun k hk => ?_, by omega⟩, by simp [within]; omega⟩
    have hnd : (1 :: mid ++ [8]).Nodup := by
      rw [List.cons_append, List.nodup_cons]
      refine ⟨?_, ?_⟩
      · intro h
        rcases List.mem_append.1 h with h | h
        · have := h8 _ h; omega
        · simp at h
      · rw [List.nodup_append]
        refine ⟨h6, by simp, fun a ha c hc => ?_⟩
        simp at hc; subst hc
        rintro rfl
        have := h8 _ ha; omega
    have hr : ∀ x ∈ 1 :: mid ++ [8], 1 ≤ x ∧ x ≤ 8 := by
      intro x hx
      rw [List.cons_append] at hx
      rcases List.mem_cons.1 hx with rfl | hx
      · omega
      · rcases List.mem_append.1 hx with h | h
        · have := h8 _ h; omega
        · simp at h; omega
    simp only [Bool.and_eq_true, Bool.not_eq_true']
    refine ⟨by have := hr _ (List.getElem_mem hk); simp only [within, Bool.and_eq_true, decide_eq_true_eq]; exact this, ?_⟩
    cases hc : ((1 :: mid ++ [8]).take k).contains (1 :: mid ++ [8])[k] with
    | false => rfl
    | true =>
      have hm := List.contains_iff_mem.1 hc
      obtain ⟨j, hj, he⟩ := List.getElem_of_mem hm
      rw [List.getElem_take] at he
      have hjk : j < k := by simp only [List.length_take] at hj; omega
      have := (List.getElem_inj hnd).1 he
      omega
  have season : seasonOk b.field.length b.games = true := by
    have hlen := GM_len hb.games
    have e := prs_len (b := n)
    have : n * n ≤ 25 := Nat.mul_le_mul (show n ≤ 5 by omega) (show n ≤ 5 by omega)
    unfold seasonOk
    rw [Bool.and_eq_true]
    refine ⟨allPre_iff.2 fun k hk => ?_, by simp; omega⟩
    obtain ⟨p, hp, hg⟩ := GM_get hb.games (List.getElem?_eq_getElem hk)
    have hpm := prs_mem (List.mem_of_getElem? hp)
    simp only [Bool.and_eq_true, Bool.not_eq_true']
    refine ⟨by rw [hfl]; exact gameFor_ok (by omega) (by omega) hpm hg, List.any_eq_false.2 fun x hx => ?_⟩
    obtain ⟨j, hj, rfl⟩ := List.getElem_of_mem hx
    rw [List.getElem_take]
    have hjk : j < k := by simp only [List.length_take] at hj; omega
    obtain ⟨q, hq, hg2⟩ := GM_get hb.games (List.getElem?_eq_getElem (show j < b.games.length by omega))
    have hqm := prs_mem (List.mem_of_getElem? hq)
    intro hs
    simp only [samePair, Bool.and_eq_true, beq_iff_eq] at hs
    obtain ⟨g1, _⟩ := hg
    obtain ⟨g2, _⟩ := hg2
    have hpq : p = q := by
      apply Prod.ext <;> omega
    subst hpq
    have l1 := (List.getElem?_eq_some_iff.1 hq).1
    have := (List.getElem?_inj l1 prs_nodup).1 (hq.trans hp.symm)
    omega
  have pens : ∀ (l : List Int), l.length = n → (∀ x ∈ l, 0 ≤ x ∧ x ≤ 1000) → pensOk l b.field.length = true := by
    intro l hl hx
    simp only [pensOk, Bool.and_eq_true, Bool.not_eq_true']
    refine ⟨by simp; omega, List.any_eq_false.2 fun x h => ?_⟩
    have := hx x h
    simp [within]; omega
  simp only [bookOk, Bool.and_eq_true]
  exact ⟨⟨⟨⟨field, rules⟩, season⟩, pens _ hb.fairl fun x hx => by have := hb.fairb x hx; omega⟩, pens _ hb.takenl fun x hx => by have := hb.takenb x hx; omega⟩

/-! ### points -/
/-- The points of a team out of a game. -/
def ptsOf (u : Rules) (g : Game) (k : Nat) : Int :=
  if (goalsOf g).2.2 = true then
    (if g.home = k then (if (goalsOf g).1 > (goalsOf g).2.1 then u.win else if (goalsOf g).1 < (goalsOf g).2.1 then u.loss else u.draw)
     else if g.away = k then (if (goalsOf g).2.1 > (goalsOf g).1 then u.win else if (goalsOf g).2.1 < (goalsOf g).1 then u.loss else u.draw) else 0)
  else 0
def sumP (u : Rules) (gs : List Game) (k : Nat) : Int := (gs.map fun g => ptsOf u g k).sum

theorem rowAdd_points {u : Rules} {r : Row} {x y : Int} : (rowAdd u r x y).points = r.points + (if x > y then u.win else if x < y then u.loss else u.draw) := by
  unfold rowAdd; split
  · rfl
  · split <;> rfl

theorem step_points {u : Rules} {n : Nat} {rows : List Row} {g : Game} {k : Nat} {r : Row} (hl : rows.length = n) (hg : gameOk n g = true) (hr : rows[k]? = some r) :
    ∃ r', (tabStep u (fun _ => true) rows g)[k]? = some r' ∧ r'.points = r.points + ptsOf u g k := by
  have hb := gameOk_bounds hg
  have hkl := (List.getElem?_eq_some_iff.1 hr).1
  unfold tabStep ptsOf
  by_cases hc : (goalsOf g).2.2 = true
  · rw [if_pos hc, if_pos (by simp [hc])]
    obtain ⟨r1, h1⟩ : ∃ r1, rows[g.home.toNat]? = some r1 := ⟨_, List.getElem?_eq_getElem (by omega)⟩
    obtain ⟨r2, h2⟩ : ∃ r2, rows[g.away.toNat]? = some r2 := ⟨_, List.getElem?_eq_getElem (by omega)⟩
    unfold addGame
    rw [h1, h2]
    simp only
    by_cases hh : g.home = k
    · have e : g.home.toNat = k := by omega
      have ne : g.away.toNat ≠ k := by omega
      rw [if_pos hh, List.getElem?_set_ne ne, e, List.getElem?_set_self hkl]
      refine ⟨_, rfl, ?_⟩
      rw [rowAdd_points]
      rw [e, hr] at h1
      cases h1; rfl
    · rw [if_neg hh]
      by_cases ha : g.away = k
      · have e : g.away.toNat = k := by omega
        rw [if_pos ha, e, List.getElem?_set_self (by simpa using hkl)]
        refine ⟨_, rfl, ?_⟩
        rw [rowAdd_points]
        rw [e, hr] at h2
        cases h2; rfl
      · rw [if_neg ha, List.getElem?_set_ne (by omega), List.getElem?_set_ne (by omega)]
        exact ⟨r, hr, by omega⟩
  · rw [if_neg hc, if_neg (by simp [hc])]
    exact ⟨r, hr, by omega⟩

theorem tab_points {u : Rules} {n : Nat} {games : List Game} {k : Nat} (hg : ∀ g ∈ games, gameOk n g = true) (hk : k < n) : ∃ r, (tab u n games (fun _ => true))[k]? = some r ∧ r.points = sumP u games k := by
  have key : ∀ (games : List Game) (rows : List Row) (r : Row), (∀ g ∈ games, gameOk n g = true) → rows.length = n → rows[k]? = some r →
      ∃ r', (games.foldl (tabStep u (fun _ => true)) rows)[k]? = some r' ∧ r'.points = r.points + sumP u games k := by
    intro games
    induction games with
    | nil => intro rows r _ _ h; exact ⟨r, h, by simp [sumP]⟩
    | cons g l ih =>
      intro rows r hg hl hr
      obtain ⟨r1, h1, h2⟩ := step_points (u := u) hl (hg g List.mem_cons_self) hr
      obtain ⟨r2, h3, h4⟩ := ih _ r1 (fun g h => hg g (List.mem_cons_of_mem _ h)) (by rw [tabStep_len, hl]) h1
      refine ⟨r2, h3, ?_⟩
      rw [h4, h2]
      simp only [sumP, List.map_cons, List.sum_cons]; omega
  obtain ⟨r, h1, h2⟩ := key games (List.replicate n zeroRow) zeroRow hg (by simp) (by simp [hk])
  exact ⟨r, h1, by rw [h2]; simp [zeroRow]⟩

theorem lost_at {b : Book} {t rule : Int} (hb : Sized b) (hok : wdOk b t rule = true) {k : Nat} (hk : k < b.field.length) : (lost b t rule)[k]? = some (sumP b.rules b.games k - sumP b.rules (b.games.map (wdGame t rule)) k) := by
  obtain ⟨h1, h2, h3, h4⟩ := wdOk_iff hok
  obtain ⟨r, e1, e2⟩ := tab_points (u := b.rules) (bookOk_tab hb h1).ok hk
  obtain ⟨q, e3, e4⟩ := tab_points (u := b.rules) (games := b.games.map (wdGame t rule)) (k := k) (n := b.field.length) (fun g hg => by
    obtain ⟨g', hg', rfl⟩ := List.mem_map.1 hg
    exact wdGame_ok h2 h3 ((bookOk_tab hb h1).ok g' hg')) hk
  have e1' : (tabAll b)[k]? = some r := e1
  have e3' : (tabAll (withdrawB b t rule))[k]? = some q := e3
  unfold lost
  rw [List.getElem?_zipWith, e1', e3']
  simp only [e2, e4]

theorem pts_nonneg {u : Rules} (hu : RulesB u) {g : Game} {k : Nat} : 0 ≤ ptsOf u g k := by
  obtain ⟨a, b, c⟩ := hu
  unfold ptsOf
  repeat' split
  all_goals omega
theorem pts_void {u : Rules} {g : Game} {k : Nat} (h : g.st = 4 ∨ g.st = 0) : ptsOf u g k = 0 := by
  unfold ptsOf
  have : (goalsOf g).2.2 = false := by
    unfold goalsOf
    rcases h with h | h <;> simp [h]
  simp [this]
theorem annul_pts {u : Rules} (hu : RulesB u) {t : Int} {g : Game} {k : Nat} : ptsOf u (wdGame t 1 g) k ≤ ptsOf u g k := by
  unfold wdGame
  split
  · simp only [beq_self_eq_true, if_true]
    rw [pts_void (.inl rfl)]
    exact pts_nonneg hu
  · exact Int.le_refl _
theorem forfeit_pts {u : Rules} (hu : RulesB u) {t : Int} {g : Game} {k : Nat} : ptsOf u g k ≤ ptsOf u (wdGame t 2 g) k := by
  unfold wdGame
  split
  · have : ((2 : Int) == 1) = false := by decide
    rw [this]
    simp only [Bool.false_eq_true, if_false]
    split
    · rename_i h
      rw [pts_void (g := g) (.inr (by simpa using h))]
      exact pts_nonneg hu
    · exact Int.le_refl _
  · exact Int.le_refl _
theorem sum_le {α : Type} {f h : α → Int} : ∀ {l : List α}, (∀ x ∈ l, f x ≤ h x) → (l.map f).sum ≤ (l.map h).sum
  | [], _ => by simp
  | a :: l, hx => by
    simp only [List.map_cons, List.sum_cons]
    have := hx a List.mem_cons_self
    have := sum_le fun x h => hx x (List.mem_cons_of_mem _ h)
    omega
theorem sumP_map {u : Rules} {f : Game → Game} {l : List Game} {k : Nat} : sumP u (l.map f) k = (l.map fun g => ptsOf u (f g) k).sum := by
  simp [sumP, List.map_map, Function.comp_def]
theorem gone_ge {b : Book} {t : Int} (hb : Sized b) (hok : wdOk b t 1 = true) {k : Nat} (hk : k < b.field.length) : ∃ x, (lost b t 1)[k]? = some x ∧ 0 ≤ x := by
  refine ⟨_, lost_at hb hok hk, ?_⟩
  have hu := (bookOk_tab hb (wdOk_iff hok).1).rules
  rw [sumP_map]
  have := sum_le (l := b.games) fun g _ => annul_pts (u := b.rules) hu (t := t) (g := g) (k := k)
  unfold sumP; omega
theorem lost_le {b : Book} {t : Int} (hb : Sized b) (hok : wdOk b t 2 = true) {k : Nat} (hk : k < b.field.length) : ∃ x, (lost b t 2)[k]? = some x ∧ x ≤ 0 := by
  refine ⟨_, lost_at hb hok hk, ?_⟩
  have hu := (bookOk_tab hb (wdOk_iff hok).1).rules
  rw [sumP_map]
  have := sum_le (l := b.games) fun g _ => forfeit_pts (u := b.rules) hu (t := t) (g := g) (k := k)
  unfold sumP; omega

/-! ### what a withdrawal changes -/
theorem sameGame_self (g : Game) : sameGame g g = true := by simp [sameGame]
theorem changed_mem {b : Book} {t rule x : Int} (h : x ∈ changed b (withdrawB b t rule)) : ∃ g, 0 ≤ x ∧ x < b.games.length ∧ b.games[x.toNat]? = some g ∧ plays t g = true ∧ (rule = 1 ∨ g.st = 0) := by
  unfold changed at h
  obtain ⟨h1, h2⟩ := List.mem_filter.1 h
  have hx := mem_upTo.1 h1
  have hl : (withdrawB b t rule).games.length = b.games.length := by simp [withdrawB]
  rw [hl, Nat.min_self] at hx
  have hg : b.games[x.toNat]? = some (b.games[x.toNat]'(by omega)) := List.getElem?_eq_getElem _
  have hg2 : (withdrawB b t rule).games[x.toNat]? = some (wdGame t rule (b.games[x.toNat]'(by omega))) := by
    simp only [withdrawB, List.getElem?_map, hg, Option.map_some]
  rw [hg, hg2] at h2
  refine ⟨_, hx.1, hx.2, hg, ?_⟩
  generalize b.games[x.toNat]'(by omega) = g at h2
  simp only [Bool.not_eq_true'] at h2
  cases hp : plays t g with
  | false =>
    have : wdGame t rule g = g := by simp [wdGame, hp]
    rw [this, sameGame_self] at h2; cases h2
  | true =>
    refine ⟨rfl, ?_⟩
    by_cases hr : rule = 1
    · exact .inl hr
    · by_cases hs : g.st = 0
      · exact .inr hs
      · have : wdGame t rule g = g := by simp [wdGame, hp, hr, hs]
        rw [this, sameGame_self] at h2; cases h2

theorem wd_plays {t rule : Int} {g : Game} : plays t (wdGame t rule g) = plays t g := by
  unfold plays; rw [wdGame_pair.1, wdGame_pair.2]
theorem good_has {n op : Nat} {b : Book} (hb : BookG n op b) (hn : 3 ≤ n) (hn5 : n ≤ 5) {t : Int} (ht : 0 ≤ t) (htn : t < n) (hok : wdOk b t 1 = true) : hasWd (withdrawB b t 1) t = true := by
  have hfl := hb.field.1
  obtain ⟨p, hp, hpt⟩ := prs_team (n := n) (t := t.toNat) (by omega) (by omega)
  obtain ⟨k, hk⟩ := List.getElem?_of_mem hp
  obtain ⟨g, hg, hgf⟩ := GM_get2 hb.games hk
  have hpl : plays t g = true := by
    obtain ⟨h1, _⟩ := hgf
    simp only [plays, Bool.or_eq_true, beq_iff_eq]
    omega
  simp only [hasWd, Bool.and_eq_true]
  refine ⟨⟨⟨wd_bookOk hok, ?_⟩, ?_⟩, ?_⟩
  · show within t 0 ((b.field.length : Int) - 1) = true
    simp only [within, Bool.and_eq_true, decide_eq_true_eq]; omega
  · simp only [withdrawB, List.any_map]
    exact List.any_eq_true.2 ⟨g, List.mem_of_getElem? hg, by simp only [Function.comp, wd_plays, hpl]⟩
  · simp only [withdrawB, List.all_map]
    refine List.all_eq_true.2 fun x _ => ?_
    simp only [Function.comp, wd_plays]
    cases h : plays t x with
    | false => rfl
    | true => simp [wdGame, h]

end Go.Sim
