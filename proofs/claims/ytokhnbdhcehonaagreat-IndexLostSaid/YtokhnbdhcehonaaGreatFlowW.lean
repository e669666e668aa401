/- The law of Flow2 for regions that read a slot and assign it behind its readers (d = append(d, ..)): a slot may be looked at by what stands ahead of its assign by the region's edges. Printed off Flow and Flow2 by mkw.py. -/
import Derived.Test.YtokhnbdhcehonaaGreatFlow2
set_option linter.unusedSimpArgs false
set_option linter.unusedVariables false
namespace Go.Proofs.YtokhnbdhcehonaaGreat.W
open Go Go.RowKit

/-- Closed facts on the region's text: what an operation looks at is laid by operations that it stands behind. -/
def flowOk2 (ops : Array Oper) (o : Oper) (i : Nat) (p : Oper) (j : Nat) : Bool :=
  match p.dst with
  | none => true
  | some t => (decide (i = j) || o.dst != some t) && (!(o.looksAt ops).contains t || (decide (j < i) && o.after.toList.any fun e => Region.binds .any e && decide (e.on = j)) || decide (i = j) || (decide (i < j) && p.after.toList.any fun e => Region.binds .any e && decide (e.on = i)))
def flowOk (ops : Array Oper) : Bool :=
  ops.toList.zipIdx.all fun x => notSelect x.1.op && (x.1.after.all fun e => !Region.binds .any e || decide (e.on < x.2)) && ops.toList.zipIdx.all fun y => flowOk2 ops x.1 x.2 y.1 y.2

structure FlowOk (ops : Array Oper) : Prop where
  sel : ∀ (i : Nat) (o : Oper), ops[i]? = some o → ∀ cs b, o.op ≠ .select cs b
  edge : ∀ (i : Nat) (o : Oper), ops[i]? = some o → ∀ e ∈ o.after, Region.binds .any e = true → e.on < i
  uniq : ∀ (i : Nat) (o : Oper) (j : Nat) (p : Oper) (t : Nat), ops[i]? = some o → ops[j]? = some p → o.dst = some t → p.dst = some t → i = j
  look : ∀ (i : Nat) (o : Oper) (j : Nat) (p : Oper) (t : Nat), ops[i]? = some o → ops[j]? = some p → p.dst = some t → t ∈ o.looksAt ops → (j < i ∧ ∃ e ∈ o.after, Region.binds .any e = true ∧ e.on = j) ∨ i = j ∨ (i < j ∧ ∃ e ∈ p.after, Region.binds .any e = true ∧ e.on = i)

theorem FlowOk.of {ops : Array Oper} (h : flowOk ops = true) : FlowOk ops := by
  have hm : ∀ (i : Nat) (o : Oper), ops[i]? = some o → (o, i) ∈ ops.toList.zipIdx := fun i o ho => by
    rw [List.mem_zipIdx_iff_getElem?]; simpa using ho
  unfold flowOk at h
  rw [List.all_eq_true] at h
  have h1 : ∀ (i : Nat) (o : Oper), ops[i]? = some o → (notSelect o.op = true ∧ (∀ e ∈ o.after, Region.binds .any e = true → e.on < i)) ∧ ∀ (j : Nat) (p : Oper), ops[j]? = some p → flowOk2 ops o i p j = true := fun i o ho => by
    have := h (o, i) (hm i o ho)
    simp only [Bool.and_eq_true, List.all_eq_true, Array.all_eq_true_iff_forall_mem, Bool.or_eq_true, Bool.not_eq_true', decide_eq_true_eq] at this
    exact ⟨⟨this.1.1, fun e he hb => (this.1.2 e he).resolve_left (by simp [hb])⟩, fun j p hp => this.2 (p, j) (hm j p hp)⟩
  refine ⟨fun i o ho cs b hs => ?_, fun i o ho e he hb => (h1 i o ho).1.2 e he hb, fun i o j p t ho hp h3 h4 => ?_, fun i o j p t ho hp h3 h4 => ?_⟩
  · have := (h1 i o ho).1.1
    rw [hs] at this
    cases this
  · have := (h1 i o ho).2 j p hp
    simp only [flowOk2, h4, Bool.and_eq_true, Bool.or_eq_true, decide_eq_true_eq, bne_iff_ne, ne_eq] at this
    rcases this.1 with e | e
    · exact e
    · exact absurd h3 e
  · have := (h1 i o ho).2 j p hp
    simp only [flowOk2, h3, Bool.and_eq_true, Bool.or_eq_true, decide_eq_true_eq, Bool.not_eq_true', List.any_eq_true] at this
    rcases this.2 with ((e | ⟨e1, e, he, h5⟩) | e) | ⟨e1, e, he, h5⟩
    · have : (o.looksAt ops).contains t = true := by simpa using h4
      rw [this] at e; cases e
    · exact .inl ⟨e1, e, by simpa using he, h5.1, h5.2⟩
    · exact .inr (.inl e)
    · exact .inr (.inr ⟨e1, e, by simpa using he, h5.1, h5.2⟩)

section
variable {P : Program} {ops : Array Oper} {S : World → Prop} {Q : Exit → Act → World → Prop} {a0 : Act} {vs : Nat → Value}

theorem laid_agree (hok : FlowOk ops) {i : Nat} {o : Oper} (ho : ops[i]? = some o) {d d' : Nat → Prop} {a a' : Act} (h : laid ops vs a0 d a) (h' : laid ops vs a0 d' a')
    (hd : ∀ e ∈ o.after, Region.binds .any e = true → d e.on) (hd' : ∀ e ∈ o.after, Region.binds .any e = true → d' e.on)
    (hn : ∀ (j : Nat) (p : Oper), ops[j]? = some p → (i = j ∨ ∃ e ∈ p.after, Region.binds .any e = true ∧ e.on = i) → ¬ d j) (hn' : ∀ (j : Nat) (p : Oper), ops[j]? = some p → (i = j ∨ ∃ e ∈ p.after, Region.binds .any e = true ∧ e.on = i) → ¬ d' j) :
    ∀ (t : Nat), t ∈ o.looksAt ops → a.tmps[t]? = a'.tmps[t]? := by
  intro t ht
  obtain ⟨_, hs, h1, h2⟩ := h
  obtain ⟨_, hs', h1', h2'⟩ := h'
  by_cases hx : ∃ (j : Nat) (p : Oper), ops[j]? = some p ∧ p.dst = some t
  · obtain ⟨j, p, hp, hpt⟩ := hx
    have late : (i = j ∨ ∃ e ∈ p.after, Region.binds .any e = true ∧ e.on = i) → a.tmps[t]? = a'.tmps[t]? := fun hl => by
      have e1 := hn j p hp hl
      have e2 := hn' j p hp hl
      rw [h2 t fun k q hq hqt hk => e1 (hok.uniq j p k q t hp hq hpt hqt ▸ hk), h2' t fun k q hq hqt hk => e2 (hok.uniq j p k q t hp hq hpt hqt ▸ hk)]
    rcases hok.look i o j p t ho hp hpt ht with ⟨_, e, he, hb, hej⟩ | hl | ⟨_, hl⟩
    · have q1 : d j := hej ▸ hd e he hb
      have q2 : d' j := hej ▸ hd' e he hb
      by_cases hlt : t < a0.tmps.size
      · rw [h1 j p t hp hpt q1 hlt, h1' j p t hp hpt q2 hlt]
      · rw [Array.getElem?_eq_none (by omega), Array.getElem?_eq_none (by omega)]
    · exact late (.inl hl)
    · exact late (.inr hl)
  · rw [h2 t fun j p hp hpt _ => hx ⟨j, p, hp, hpt⟩, h2' t fun j p hp hpt _ => hx ⟨j, p, hp, hpt⟩]

theorem laid_put (hok : FlowOk ops) {i : Nat} {o : Oper} (ho : ops[i]? = some o) {d : Nat → Prop} {a : Act} (h : laid ops vs a0 d a) (hi : ¬ d i) :
    laid ops vs a0 (fun j => d j ∨ j = i) (a.put o.dst (vs i)) := by
  obtain ⟨h0, hs, h1, h2⟩ := h
  cases hdst : o.dst with
  | none =>
    refine ⟨h0, hs, fun j p t hp hpt hj hlt => ?_, fun t ht => ?_⟩
    · rcases hj with hj | rfl
      · exact h1 j p t hp hpt hj hlt
      · rw [ho] at hp; cases hp; rw [hdst] at hpt; cases hpt
    · exact h2 t fun j p hp hpt hj => ht j p hp hpt (.inl hj)
  | some u =>
    refine ⟨h0, by simpa [Act.put] using hs, fun j p t hp hpt hj hlt => ?_, fun t ht => ?_⟩
    · by_cases hji : j = i
      · subst hji
        rw [ho] at hp; cases hp; rw [hdst] at hpt; cases hpt
        simp only [Act.put]; rw [Array.getElem?_setIfInBounds_self_of_lt (by omega)]
      · have hne : u ≠ t := fun e => hji (hok.uniq j p i o t hp ho hpt (by rw [hdst, e]))
        simp only [Act.put, Array.getElem?_setIfInBounds_ne hne]
        exact h1 j p t hp hpt (hj.resolve_right hji) hlt
    · have hne : u ≠ t := fun e => ht i o ho (by rw [hdst, e]) (.inr rfl)
      simp only [Act.put, Array.getElem?_setIfInBounds_ne hne]
      exact h2 t fun j p hp hpt hj => ht j p hp hpt (.inl hj)

end

/-- What stands in an operation's mask is done when the operation may come up. -/
theorem mask_done {ops : Array Oper} (hok : FlowOk ops) {M : List Nat} (hM : ops.toList.map (maskOf M) = M) {D : Nat → Prop}
    (hD : ∀ (i : Nat) (o : Oper), ops[i]? = some o → D i → ∀ e ∈ o.after, Region.binds .any e = true → D e.on) :
    ∀ (i : Nat) (o : Oper), ops[i]? = some o → (∀ e ∈ o.after, Region.binds .any e = true → D e.on) → ∀ k, (M.getD i 0).testBit k = true → D k := by
  intro i
  induction i using Nat.strongRecOn with
  | ind i ih =>
    intro o ho he k hk
    have hMi : M.getD i 0 = maskOf M o := by
      have : M[i]? = some (maskOf M o) := by
        conv => lhs; rw [← hM]
        rw [List.getElem?_map]
        have : ops.toList[i]? = some o := by simpa using ho
        rw [this]; rfl
      rw [List.getD_eq_getElem?_getD, this]; rfl
    rw [hMi] at hk
    rcases mask_spec M k _ _ hk with h0 | ⟨e, hme, hb, h1⟩
    · simp at h0
    · have hme' : e ∈ o.after := by simpa using hme
      rcases h1 with h1 | h1
      · rw [← h1]; exact he e hme' hb
      · have hlt := hok.edge i o ho e hme' hb
        have hio : i < ops.size := (Array.getElem?_eq_some_iff.1 ho).1
        have hoe : ops[e.on]? = some ops[e.on] := Array.getElem?_eq_getElem (by omega)
        exact ih e.on hlt _ hoe (hD e.on _ hoe (he e hme' hb)) k h1

section
variable {P : Program} {ops : Array Oper} {S : World → Prop} {Q : Exit → Act → World → Prop} {a0 : Act}

/-- The operations up to the next one that turns the world are taken up. -/
theorem absorb (hok : FlowOk ops) {Q' : Act → World → Prop} {D : Nat → Prop} : ∀ (ord2 : List (Nat × Bool)) (l : List Nat) (vs : Nat → Value) (a : Act) (w : World),
    flow2 P ops S Q' ord2 a w → laid ops vs a0 (· ∈ l) a → ToldB P ops S a0 vs D l → (∀ x ∈ ord2, x.1 ∉ l) → (ord2.map (·.1)).Nodup → (∀ x ∈ ord2, ¬ D x.1) →
    ∃ (g r : List (Nat × Bool)) (us : Nat → Value) (aV : Act), ord2 = g ++ r ∧ (∀ x ∈ g, x.2 = false) ∧ (∀ x r', r = x :: r' → x.2 = true) ∧ (∀ i ∈ l, us i = vs i) ∧
      laid ops us a0 (· ∈ l ++ g.map (·.1)) aV ∧ ToldB P ops S a0 us D (l ++ g.map (·.1)) ∧ flow2 P ops S Q' r aV w := by
  intro ord2
  induction ord2 with
  | nil =>
    intro l vs a w hf ha ht _ _ _
    exact ⟨[], [], vs, a, rfl, by simp, by simp, fun _ _ => rfl, by simpa using ha, by simpa using ht, hf⟩
  | cons x rest ih =>
    obtain ⟨i, b⟩ := x
    intro l vs a w hf ha ht hnew hnd hD
    cases b with
    | true => exact ⟨[], (i, true) :: rest, vs, a, rfl, by simp, (by rintro x r' h; cases h; rfl), fun _ _ => rfl, by simpa using ha, by simpa using ht, hf⟩
    | false =>
      obtain ⟨o, ho, hf⟩ := hf
      have hil : i ∉ l := hnew (i, false) (by simp)
      have key : ∀ v, ((Region.wanted o (yielded ops a.tmps) = true ∧ ∀ w', S w' → givesR P (fun w'' => S w'' ∧ Ext w' w'') v ((execOp a.eval o).run P w')) ∨ (Region.wanted o (yielded ops a.tmps) = false ∧ v = undef)) →
          flow2 P ops S Q' rest (a.put o.dst v) w →
          ∃ (g r : List (Nat × Bool)) (us : Nat → Value) (aV : Act), (i, false) :: rest = g ++ r ∧ (∀ x ∈ g, x.2 = false) ∧ (∀ x r', r = x :: r' → x.2 = true) ∧ (∀ i ∈ l, us i = vs i) ∧
            laid ops us a0 (· ∈ l ++ g.map (·.1)) aV ∧ ToldB P ops S a0 us D (l ++ g.map (·.1)) ∧ flow2 P ops S Q' r aV w := by
        intro v hv hrest
        let us : Nat → Value := fun j => if j = i then v else vs j
        have hus : ∀ j, j ≠ i → us j = vs j := fun j hj => if_neg hj
        have husi : us i = v := if_pos rfl
        have ha1 : laid ops us a0 (· ∈ l) a := laid_congr ha fun j hj => hus j fun e => hil (e ▸ hj)
        have ha2 := laid_put hok ho ha1 hil
        rw [husi] at ha2
        have ha3 : laid ops us a0 (· ∈ l ++ [i]) (a.put o.dst v) := laid_iff ha2 fun j => by simp
        have ht3 : ToldB P ops S a0 us D (l ++ [i]) := by
          intro n j p hn hp hDj
          by_cases hnl : n < l.length
          · rw [List.getElem?_append_left hnl] at hn
            obtain ⟨c, hc, hr⟩ := ht n j p hn hp hDj
            have hjl : j ∈ l := List.mem_of_getElem? hn
            refine ⟨c, ?_, ?_⟩
            · rw [List.take_append_of_le_length (by omega)]
              exact laid_congr hc fun m hm => hus m fun e => hil (e ▸ List.mem_of_mem_take hm)
            · rw [hus j fun e => hil (e ▸ hjl)]; exact hr
          · have hn0 : n = l.length := by
              have := (List.getElem?_eq_some_iff.1 hn).1
              simp at this; omega
            subst hn0
            simp at hn
            subst hn
            rw [ho] at hp; cases hp
            refine ⟨a, ?_, ?_⟩
            · rw [List.take_left']
              · exact ha1
              · rfl
            · rw [husi]; exact hv
        simp only [List.map_cons, List.nodup_cons] at hnd
        obtain ⟨g, r, us2, aV, h1, h2, h3, h4, h5, h6, h7⟩ := ih (l ++ [i]) us (a.put o.dst v) w hrest ha3 ht3
          (fun x hx hm => by
            rw [List.mem_append, List.mem_singleton] at hm
            rcases hm with hm | hm
            · exact hnew x (by simp [hx]) hm
            · exact hnd.1 (by rw [← hm]; exact List.mem_map_of_mem hx)) hnd.2 (fun x hx => hD x (by simp [hx]))
        refine ⟨(i, false) :: g, r, us2, aV, by simp [h1], ?_, h3, fun j hj => ?_, ?_, ?_, h7⟩
        · intro x hx
          rcases List.mem_cons.1 hx with rfl | hx
          · rfl
          · exact h2 x hx
        · rw [h4 j (by simp [hj]), hus j fun e => hil (e ▸ hj)]
        · simpa using h5
        · simpa using h6
      rcases hf with ⟨hw, hrest⟩ | ⟨hw, _, v, hg, hrest⟩ | ⟨_, hb, _⟩
      · exact key undef (.inr ⟨hw, rfl⟩) hrest
      · exact key v (.inl ⟨hw, hg⟩) hrest
      · cases hb

theorem flow2_any (hok : FlowOk ops) {M : List Nat} (hM : ops.toList.map (maskOf M) = M) {idx : List Nat} (hidx : idx.Nodup)
    (hall : ∀ i, i < ops.size → i ∈ idx)
    (hedge : ∀ (n : Nat) (i : Nat) (o : Oper), idx[n]? = some i → ops[i]? = some o → ∀ e ∈ o.after, Region.binds .any e = true → e.on ∈ idx.take n) :
    ∀ (fuel : Nat) (listed : Array Bool) (a : Act) (w : World) (l : List Nat) (ord2 : List (Nat × Bool)) (vs : Nat → Value) (aV : Act) (wV : World) (last : Option Nat),
      listed.size = ops.size → listed.toList.count false ≤ fuel → l ++ ord2.map (·.1) = idx → chainOk M ord2 last = true → (∀ x r', ord2 = x :: r' → x.2 = true) →
      laid ops vs a0 (fun j => listed.getD j false = true) a → laid ops vs a0 (· ∈ l) aV → ToldB P ops S a0 vs (fun j => listed.getD j false = true) l →
      (∀ x ∈ ord2, ¬ listed.getD x.1 false = true) → (∀ (i : Nat) (o : Oper), ops[i]? = some o → listed.getD i false = true → ∀ e ∈ o.after, Region.binds .any e = true → listed.getD e.on false = true) →
      S w → Ext wV w → flow2 P ops S (fun a w => Q .normal a w) ord2 aV wV → wpAny P .any ops Q fuel listed a w := by
  have behind : ∀ (n i : Nat), idx[n]? = some i → ∀ (j : Nat) (p : Oper), ops[j]? = some p → (i = j ∨ ∃ e ∈ p.after, Region.binds .any e = true ∧ e.on = i) → j ∉ idx.take n := by
    intro n i hn j p hp hl hj
    obtain ⟨m, hm⟩ := List.getElem?_of_mem hj
    have hmn : m < n := by
      have := (List.getElem?_eq_some_iff.1 hm).1
      rw [List.length_take] at this; omega
    rw [List.getElem?_take_of_lt hmn] at hm
    have one : ∀ x y : Nat, x < y → idx[x]? = some i → idx[y]? = some i → False := by
      intro x y hxy hx hy
      obtain ⟨h1, h2⟩ := List.getElem?_eq_some_iff.1 hx
      obtain ⟨h3, h4⟩ := List.getElem?_eq_some_iff.1 hy
      exact (List.pairwise_iff_getElem.1 hidx) x y h1 h3 hxy (h2.trans h4.symm)
    rcases hl with rfl | ⟨e, he, hb, hei⟩
    · exact one m n hmn hm hn
    · have h5 := hedge m j p hm hp e he hb
      rw [hei] at h5
      obtain ⟨q, hq⟩ := List.getElem?_of_mem h5
      have hqm : q < m := by
        have := (List.getElem?_eq_some_iff.1 hq).1
        rw [List.length_take] at this; omega
      rw [List.getElem?_take_of_lt hqm] at hq
      exact one q n (by omega) hq hn
  -- all done: the flow is at its end
  have hend : ∀ (listed : Array Bool) (a : Act) (w : World) (l : List Nat) (ord2 : List (Nat × Bool)) (vs : Nat → Value) (aV : Act) (wV : World), listed.size = ops.size → l ++ ord2.map (·.1) = idx →
      laid ops vs a0 (fun j => listed.getD j false = true) a → laid ops vs a0 (· ∈ l) aV → (∀ x ∈ ord2, ¬ listed.getD x.1 false = true) → S w → Ext wV w → flow2 P ops S (fun a w => Q .normal a w) ord2 aV wV →
      (∀ x ∈ ord2, x.1 < ops.size) → (∀ i, i < ops.size → listed.getD i false = true) → Q .normal a w := by
    intro listed a w l ord2 vs aV wV hsz hl hla hlV hun hS hE hf hlt hdone
    have h0 : ord2 = [] := by
      cases ord2 with
      | nil => rfl
      | cons x r => exact absurd (hdone x.1 (hlt x (by simp))) (hun x (by simp))
    subst h0
    have he : a = aV := by
      obtain ⟨h0, hs, h1, h2⟩ := hla
      obtain ⟨h0', hs', h1', h2'⟩ := hlV
      obtain ⟨tm, df⟩ := a
      obtain ⟨tm', df'⟩ := aV
      simp only at h0 hs h1 h2 h0' hs' h1' h2'
      have ht : tm = tm' := by
        apply Array.ext_getElem?
        intro t
        by_cases hx : ∃ (j : Nat) (p : Oper), ops[j]? = some p ∧ p.dst = some t
        · obtain ⟨j, p, hp, hpt⟩ := hx
          have hj : j < ops.size := (Array.getElem?_eq_some_iff.1 hp).1
          have hjl : j ∈ l := by have := hall j hj; rw [← hl] at this; simpa using this
          by_cases hlt : t < a0.tmps.size
          · rw [h1 j p t hp hpt (hdone j hj) hlt, h1' j p t hp hpt hjl hlt]
          · rw [Array.getElem?_eq_none (by omega), Array.getElem?_eq_none (by omega)]
        · rw [h2 t fun j p hp hpt _ => hx ⟨j, p, hp, hpt⟩, h2' t fun j p hp hpt _ => hx ⟨j, p, hp, hpt⟩]
      rw [ht, h0, h0']
    rw [he]
    exact hf w hE hS
  have hready : ∀ (listed : Array Bool), listed.size = ops.size → Region.ready .any ops listed = [] → ∀ i, i < ops.size → listed.getD i false = true := by
    intro listed hsz hr i
    induction i using Nat.strongRecOn with
    | ind i ih =>
      intro hi
      by_cases hli : listed.getD i false = true
      · exact hli
      · exfalso
        have : i ∈ Region.ready .any ops listed := by
          rw [mem_ready]
          refine ⟨?_, ops[i], Array.getElem?_eq_getElem hi, fun e he hb => ih e.on (hok.edge i _ (Array.getElem?_eq_getElem hi) e he hb) (by have := hok.edge i _ (Array.getElem?_eq_getElem hi) e he hb; omega)⟩
          have hlt : i < listed.size := by omega
          simp [hlt] at hli ⊢
          exact hli
        rw [hr] at this
        cases this
  have hord : ∀ (ord2 : List (Nat × Bool)) (aV : Act) (wV : World), flow2 P ops S (fun a w => Q .normal a w) ord2 aV wV → ∀ (l : List Nat), l ++ ord2.map (·.1) = idx → True := fun _ _ _ _ _ _ => trivial
  clear hord
  intro fuel
  induction fuel with
  | zero =>
    intro listed a w l ord2 vs aV wV last hsz hc hl hch hhd hla hlV hT hun hdc hS hE hf
    have hdone : ∀ i, i < ops.size → listed.getD i false = true := by
      intro i hi
      have hlt : i < listed.size := by omega
      have h0 : listed.toList.count false = 0 := by omega
      rw [List.count_eq_zero] at h0
      have : listed[i] ≠ false := fun e => h0 (by rw [← e]; simp)
      simpa [hlt] using this
    have hnil : ord2 = [] := by
      cases ord2 with
      | nil => rfl
      | cons x r =>
        exfalso
        obtain ⟨i, b⟩ := x
        obtain ⟨o, ho, _⟩ := hf
        exact hun (i, b) (by simp) (hdone i (Array.getElem?_eq_some_iff.1 ho).1)
    refine ⟨?_, hend listed a w l ord2 vs aV wV hsz hl hla hlV hun hS hE hf (by rw [hnil]; simp) hdone⟩
    rw [List.eq_nil_iff_forall_not_mem]
    intro i hi
    rw [mem_ready] at hi
    obtain ⟨h1, o, ho, _⟩ := hi
    have hlt : i < ops.size := (Array.getElem?_eq_some_iff.1 ho).1
    have := hdone i hlt
    have hlt' : i < listed.size := by omega
    simp [hlt'] at h1 this
    rw [h1] at this; cases this
  | succ fuel ih =>
    intro listed a w l ord2 vs aV wV last hsz hc hl hch hhd hla hlV hT hun hdc hS hE hf
    refine ⟨fun hr => ?_, fun i hi => ?_⟩
    · have hdone := hready listed hsz hr
      have hnil : ord2 = [] := by
        cases ord2 with
        | nil => rfl
        | cons x r =>
          exfalso
          obtain ⟨i, b⟩ := x
          obtain ⟨o, ho, _⟩ := hf
          exact hun (i, b) (by simp) (hdone i (Array.getElem?_eq_some_iff.1 ho).1)
      exact hend listed a w l ord2 vs aV wV hsz hl hla hlV hun hS hE hf (by rw [hnil]; simp) hdone
    rw [mem_ready] at hi
    obtain ⟨hli, o, ho, hedges⟩ := hi
    have hio : i < ops.size := (Array.getElem?_eq_some_iff.1 ho).1
    have hil : i < listed.size := by omega
    have hli' : listed[i] = false := by simpa [hil] using hli
    have hnot : ¬ listed.getD i false = true := by simp [hil, hli']
    have hcnt : (listed.setIfInBounds i true).toList.count false ≤ fuel := by
      rw [Array.toList_setIfInBounds]
      have := List.count_set (l := listed.toList) (i := i) (a := true) (b := false) (by simpa using hil)
      rw [this]
      have hc' : listed.toList.count false ≤ fuel + 1 := hc
      have hpos : 0 < listed.toList.count false := List.count_pos_iff.2 (by rw [← hli']; simp)
      have e1 : (listed.toList[i]'(by simpa using hil) == false) = true := by simp [hli']
      rw [if_pos e1, if_neg (by decide)]
      omega
    have hset : ∀ j, ((listed.getD j false = true) ∨ j = i) ↔ ((listed.setIfInBounds i true).getD j false = true) := by
      intro j
      by_cases hj : i = j
      · subst hj; simp [hil]
      · rw [getD_set_ne false hj]
        exact ⟨fun h => h.resolve_right fun e => hj e.symm, .inl⟩
    have hdc' : ∀ (k : Nat) (p : Oper), ops[k]? = some p → (listed.setIfInBounds i true).getD k false = true → ∀ e ∈ p.after, Region.binds .any e = true → (listed.setIfInBounds i true).getD e.on false = true := by
      intro k p hp hk e he hb
      rw [← hset] at hk ⊢
      rcases hk with hk | rfl
      · exact .inl (hdc k p hp hk e he hb)
      · rw [ho] at hp; cases hp
        exact .inl (hedges e he hb)
    have hmem : i ∈ l ∨ i ∈ ord2.map (·.1) := by
      have := hall i hio
      rw [← hl] at this
      exact List.mem_append.1 this
    have hndl : (l ++ ord2.map (·.1)).Nodup := by rw [hl]; exact hidx
    rcases hmem with hmem | hmem
    · -- an operation that is known by itself
      obtain ⟨n, hn⟩ := List.getElem?_of_mem hmem
      have hnl : n < l.length := (List.getElem?_eq_some_iff.1 hn).1
      obtain ⟨b, hb, hr⟩ := hT n i o hn ho hnot
      have hidn : idx[n]? = some i := by rw [← hl, List.getElem?_append_left hnl]; exact hn
      have htake : idx.take n = l.take n := by rw [← hl, List.take_append_of_le_length (by omega)]
      have hag := laid_agree hok ho hla hb hedges (fun e he hbi => by have := hedge n i o hidn ho e he hbi; rw [htake] at this; exact this)
        (fun j p hp hl hj => by
          rcases hl with rfl | ⟨e, he, hbi, hei⟩
          · exact hnot hj
          · exact hnot (hei ▸ hdc j p hp hj e he hbi))
        (fun j p hp hl hj => by rw [← htake] at hj; exact behind n i hidn j p hp hl hj)
      have hw := wanted_agree (ops := ops) hag
      have hx := execOp_congr o (hok.sel i o ho) (eval_agree (ops := ops) hag)
      have hnext : ∀ w', S w' → Ext w w' → wpAny P .any ops Q fuel (listed.setIfInBounds i true) (a.put o.dst (vs i)) w' := by
        intro w' hS' hE'
        refine ih _ _ _ l ord2 vs aV wV last (by simpa using hsz) hcnt hl hch hhd (laid_iff (laid_put hok ho hla hnot) hset) hlV ?_ ?_ hdc' hS' (hE.trans hE') hf
        · intro n' j p hn' hp hDj
          exact hT n' j p hn' hp fun h => hDj ((hset j).1 (.inl h))
        · intro x hx hD
          rw [← hset] at hD
          rcases hD with hD | hD
          · exact hun x hx hD
          · rw [List.nodup_append] at hndl
            exact hndl.2.2 i hmem x.1 (List.mem_map_of_mem hx) hD.symm
      unfold wpOp
      simp only [ho]
      rw [hw]
      rcases hr with ⟨hw1, hg⟩ | ⟨hw1, hv⟩
      · rw [if_pos hw1]
        refine .inl ?_
        have hg' := hg w hS
        unfold Oper.wp
        rw [hx]
        generalize (execOp b.eval o).run P w = r at *
        cases r with
        | ok nx w' =>
          cases nx <;> simp only [givesR, Oper.upon] at hg' ⊢
          case value u => obtain ⟨rfl, h2, h3⟩ := hg'; exact hnext _ h2 h3
          case skip => obtain ⟨h1, h2, h3⟩ := hg'; rw [h1]; exact hnext _ h2 h3
          case enter f args =>
            refine Calls.mono hg' fun e w'' ⟨he, h2, h3⟩ => ?_
            subst he
            exact hnext _ h2 h3
        | halt x w' => cases x <;> simp only [givesR] at hg'
      · rw [if_neg (by simp [hw1]), ← hv]
        exact hnext w hS (Ext.refl w)
    · -- an operation of those that are left: it is the first
      cases ord2 with
      | nil => simp at hmem
      | cons x rest =>
        obtain ⟨e0, b0⟩ := x
        have hb0 : b0 = true := hhd (e0, b0) rest rfl
        subst hb0
        have hch1 : chainOk M rest (some e0) = true := by simp only [chainOk, Bool.and_eq_true] at hch; exact hch.2
        have hie : i = e0 := by
          rcases List.mem_cons.1 hmem with h | h
          · exact h
          · exfalso
            obtain ⟨y, hy, rfl⟩ := List.mem_map.1 h
            obtain ⟨k, hk, hk2⟩ := chain_mem rest e0 hch1 y hy
            have hD := mask_done hok hM (D := fun j => listed.getD j false = true) hdc y.1 o ho hedges k hk
            rcases hk2 with rfl | hk2
            · exact hun (k, true) (by simp) hD
            · obtain ⟨z, hz, rfl⟩ := List.mem_map.1 hk2
              exact hun z (by simp [hz]) hD
        subst hie
        simp only [List.map_cons] at hndl hl
        have hil2 : i ∉ l := by
          rw [List.nodup_append] at hndl
          exact fun hm => hndl.2.2 i hm i (by simp) rfl
        obtain ⟨o', ho', hf⟩ := hf
        rw [ho] at ho'
        cases ho'
        have hidn : idx[l.length]? = some i := by rw [← hl]; simp
        have htake : idx.take l.length = l := by rw [← hl]; simp
        have hag := laid_agree hok ho hla hlV hedges (fun e he hbi => by have := hedge l.length i o hidn ho e he hbi; rw [htake] at this; exact this)
          (fun j p hp hl hj => by
            rcases hl with rfl | ⟨e, he, hbi, hei⟩
            · exact hnot hj
            · exact hnot (hei ▸ hdc j p hp hj e he hbi))
          (fun j p hp hl hj => by rw [← htake] at hj; exact behind l.length i hidn j p hp hl hj)
        have hw := wanted_agree (ops := ops) hag
        have hx := execOp_congr o (hok.sel i o ho) (eval_agree (ops := ops) hag)
        -- behind the operation: take up what comes till the next one that turns the world
        have hnext : ∀ (u : Value) (w3 : World), S w3 → (∃ wV', Ext wV' w3 ∧ flow2 P ops S (fun a w => Q .normal a w) rest (aV.put o.dst u) wV') → wpAny P .any ops Q fuel (listed.setIfInBounds i true) (a.put o.dst u) w3 := by
          intro u w3 hS3 ⟨wV', hE3, hrest⟩
          let us : Nat → Value := fun j => if j = i then u else vs j
          have hus : ∀ j, j ≠ i → us j = vs j := fun j hj => if_neg hj
          have husi : us i = u := if_pos rfl
          have hV1 : laid ops us a0 (· ∈ l) aV := laid_congr hlV fun j hj => hus j fun e => hil2 (e ▸ hj)
          have hV2 := laid_put hok ho hV1 hil2
          rw [husi] at hV2
          have hV3 : laid ops us a0 (· ∈ l ++ [i]) (aV.put o.dst u) := laid_iff hV2 fun j => by simp
          have ha1 : laid ops us a0 (fun j => listed.getD j false = true) a := laid_congr hla fun j hj => hus j fun e => hnot (e ▸ hj)
          have ha2 := laid_put hok ho ha1 hnot
          rw [husi] at ha2
          have ha3 := laid_iff ha2 hset
          have hT3 : ToldB P ops S a0 us (fun j => (listed.setIfInBounds i true).getD j false = true) (l ++ [i]) := by
            intro n j p hn hp hDj
            by_cases hnl : n < l.length
            · rw [List.getElem?_append_left hnl] at hn
              have hjl : j ∈ l := List.mem_of_getElem? hn
              obtain ⟨c, hc, hr⟩ := hT n j p hn hp fun h => hDj ((hset j).1 (.inl h))
              refine ⟨c, ?_, ?_⟩
              · rw [List.take_append_of_le_length (by omega)]
                exact laid_congr hc fun m hm => hus m fun e => hil2 (e ▸ List.mem_of_mem_take hm)
              · rw [hus j fun e => hil2 (e ▸ hjl)]; exact hr
            · exfalso
              have hn0 : n = l.length := by
                have := (List.getElem?_eq_some_iff.1 hn).1
                simp at this; omega
              subst hn0
              simp at hn
              exact hDj ((hset j).1 (.inr hn.symm))
          rw [List.nodup_append] at hndl
          obtain ⟨hn1, hn2, hn3⟩ := hndl
          simp only [List.nodup_cons] at hn2
          obtain ⟨g, r, us2, aV', h1, h2, h3, h4, h5, h6, h7⟩ := absorb hok rest (l ++ [i]) us (aV.put o.dst u) wV' hrest hV3 hT3
            (fun x hx hm => by
              rw [List.mem_append, List.mem_singleton] at hm
              rcases hm with hm | hm
              · exact hn3 x.1 hm x.1 (by simp only [List.mem_cons]; exact .inr (List.mem_map_of_mem hx)) rfl
              · exact hn2.1 (by rw [← hm]; exact List.mem_map_of_mem hx)) hn2.2
            (fun x hx hD => by
              rw [← hset] at hD
              rcases hD with hD | hD
              · exact hun x (by simp [hx]) hD
              · exact hn2.1 (by rw [← hD]; exact List.mem_map_of_mem hx))
          have hdl : ∀ j, (listed.setIfInBounds i true).getD j false = true → j ∈ l ++ [i] := by
            intro j hj
            have hjs : j < ops.size := by
              rcases Nat.lt_or_ge j ops.size with h | h
              · exact h
              · have : ¬ j < (listed.setIfInBounds i true).size := by simp; omega
                simp [Array.getElem?_eq_none (Nat.le_of_not_lt this)] at hj
            have := hall j hjs
            rw [← hl] at this
            rw [List.mem_append] at this ⊢
            rcases this with h | h
            · exact .inl h
            · rcases List.mem_cons.1 h with h | h
              · exact .inr (by simp [h])
              · exfalso
                obtain ⟨y, hy, rfl⟩ := List.mem_map.1 h
                rw [← hset] at hj
                rcases hj with hj | hj
                · exact hun y (by simp [hy]) hj
                · exact hn2.1 (by rw [← hj]; exact List.mem_map_of_mem hy)
          obtain ⟨last', hlast'⟩ := chain_drop g r (some i) (by rw [← h1]; exact hch1)
          refine ih _ _ _ (l ++ [i] ++ g.map (·.1)) r us2 aV' wV' last' (by simpa using hsz) hcnt ?_ hlast' h3 (laid_congr ha3 fun j hj => h4 j (hdl j hj)) h5 h6 ?_ hdc' hS3 hE3 h7
          · rw [← hl, h1]; simp
          · intro x hx hD
            have := hdl x.1 hD
            rw [List.mem_append, List.mem_singleton] at this
            have hxr : x ∈ rest := by rw [h1]; simp [hx]
            rcases this with h | h
            · exact hn3 x.1 h x.1 (by simp only [List.mem_cons]; exact .inr (List.mem_map_of_mem hxr)) rfl
            · exact hn2.1 (by rw [← h]; exact List.mem_map_of_mem hxr)
        unfold wpOp
        simp only [ho]
        rw [hw]
        rcases hf with ⟨hw1, hrest⟩ | ⟨_, hb, _⟩ | ⟨hw1, _, hf⟩
        · rw [if_neg (by simp [hw1])]
          exact hnext undef w hS ⟨wV, hE, hrest⟩
        · cases hb
        · rw [if_pos hw1]
          refine .inl ?_
          have hg' := hf w hE hS
          unfold Oper.wp
          rw [hx]
          generalize (execOp aV.eval o).run P w = r at *
          cases r with
          | ok nx w' =>
            cases nx <;> simp only [effR, Oper.upon] at hg' ⊢
            case value u => exact hnext _ _ hg'.1 ⟨w', Ext.refl _, hg'.2⟩
            case skip => exact hnext _ _ hg'.1 ⟨w', Ext.refl _, hg'.2⟩
            case enter f args =>
              refine Calls.mono hg' fun e w'' he => ?_
              cases e with
              | returned v => exact hnext _ _ he.1 ⟨w'', Ext.refl _, he.2⟩
              | panicked c => exact he.elim
              | outgrown => exact he.elim
          | halt x w' => cases x <;> simp only [effR] at hg'

/-- THE LAW. 'ord': the operations in an order of one's own that the edges allow; 'true': it turns the world. -/
theorem wp_region_flow2 {id : Nat} {w : World} (ord : List (Nat × Bool)) (S : World → Prop) (hm : P.follows .mixedOrders = true) (hok : flowOk ops = true) (hord : ordOk ops ord = true) (hS : S w.drew)
    (h : flow2 P ops S (fun a w => Q .normal a w) ord a0 w.drew) : (Code.region id ops true).wp P Q a0 w := by
  have hok := FlowOk.of hok
  simp only [ordOk, Bool.and_eq_true, beq_iff_eq, List.all_eq_true] at hord
  obtain ⟨⟨⟨hM, hch⟩, hed⟩, hall⟩ := hord
  obtain ⟨k1, _, k3⟩ := edgesIn_spec ord [] hed
  have hl0 : laid ops (fun _ => undef) a0 (· ∈ ([] : List Nat)) a0 := ⟨rfl, rfl, fun _ _ _ _ _ h _ => absurd h List.not_mem_nil, fun _ _ => rfl⟩
  have hbase : ∀ j, ¬ (Array.replicate ops.size false).getD j false = true := by
    intro j hj
    by_cases h : j < ops.size <;> simp [h] at hj
  obtain ⟨g, r, us, aV, h1, h2, h3, h4, h5, h6, h7⟩ := absorb (D := fun j => (Array.replicate ops.size false).getD j false = true) hok ord [] (fun _ => undef) a0 w.drew h hl0 (fun _ _ _ h => by simp at h) (by simp) k1 (fun x _ => hbase x.1)
  obtain ⟨last', hlast'⟩ := chain_drop g r none (by rw [← h1]; exact hch)
  refine wp_region_any hm ?_
  refine flow2_any (S := S) hok hM k1 (fun i hi => by have := hall i (by simpa using hi); simpa using this) (fun n i o hn ho e he hb => (k3 n i o hn ho e he hb).resolve_left (by simp)) ops.size _ a0 w.drew ([] ++ g.map (·.1)) r us aV w.drew last' (by simp) (by simp) (by rw [h1]; simp) hlast' h3 ?_ h5 h6 (fun x _ => hbase x.1) (fun i o ho hD => absurd hD (hbase i)) hS (Ext.refl _) h7
  exact laid_congr (laid_iff hl0 fun j => ⟨fun h => absurd h List.not_mem_nil, fun h => absurd h (hbase j)⟩) fun j hj => absurd hj (hbase j)

theorem wp_region_flow2_lit {id : Nat} {l : List Oper} {w : World} (ord : List (Nat × Bool)) (S : World → Prop) (hm : P.follows .mixedOrders = true) (hok : flowOk l.toArray = true) (hord : ordOk l.toArray ord = true) (hS : S w.drew)
    (h : flow2 P l.toArray S (fun a w => Q .normal a w) ord a0 w.drew) : (Code.region id l.toArray true).wp P Q a0 w :=
  wp_region_flow2 ord S hm hok hord hS h

end
end Go.Proofs.YtokhnbdhcehonaaGreat.W
