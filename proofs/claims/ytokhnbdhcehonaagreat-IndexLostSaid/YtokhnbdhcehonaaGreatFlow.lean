/- A region that leaves its order open, walked once, in the order of the text: where each operation gives one and the same value in every world that meets S, and keeps S. -/
import Derived.WalkKit
import Derived.Orders
set_option linter.unusedSimpArgs false
set_option linter.unusedVariables false
namespace Go.Proofs.YtokhnbdhcehonaaGreat
open Go

/-- What is asked of one operation's run. -/
def givesR (P : Program) (S : World → Prop) (v : Value) : Result Next → Prop
  | .ok (.value u) w' => u = v ∧ S w'
  | .ok .skip w' => undef = v ∧ S w'
  | .ok (.enter f args) w' => Calls P f args w' fun e w'' => e = .returned v ∧ S w''
  | _ => False

section
variable {P : Program} {S : World → Prop} {v : Value} {w : World}
@[go_sem] theorem givesR_value (u : Value) : givesR P S v (.ok (.value u) w) = (u = v ∧ S w) := rfl
@[go_sem] theorem givesR_skip : givesR P S v (.ok .skip w) = (undef = v ∧ S w) := rfl
@[go_sem] theorem givesR_enter (f : FuncId) (args : Array Value) : givesR P S v (.ok (.enter f args) w) = Calls P f args w fun e w'' => e = .returned v ∧ S w'' := rfl
end

/-- In whatever world meets S the operation gives v, and S stays met. -/
def gives (P : Program) (o : Oper) (a : Act) (S : World → Prop) (v : Value) : Prop := ∀ w, S w → givesR P S v ((execOp a.eval o).run P w)

def flow (P : Program) (ops : Array Oper) (S : World → Prop) (K : Act → Prop) : List Oper → Act → Prop
  | [], a => K a
  | o :: rest, a => if Region.wanted o (yielded ops a.tmps) then ∃ v, gives P o a S v ∧ flow P ops S K rest (a.put o.dst v) else flow P ops S K rest (a.put o.dst undef)

/-- Closed facts on the region's text: what an operation looks at is laid by operations that it stands behind. -/
def flowOk2 (ops : Array Oper) (o : Oper) (i : Nat) (p : Oper) (j : Nat) : Bool :=
  match p.dst with
  | none => true
  | some t => (decide (i = j) || o.dst != some t) && (!(o.looksAt ops).contains t || (decide (j < i) && o.after.toList.any fun e => Region.binds .any e && decide (e.on = j)))
def notSelect : Op → Bool
  | .select .. => false
  | _ => true
def flowOk (ops : Array Oper) : Bool :=
  ops.toList.zipIdx.all fun x => notSelect x.1.op && (x.1.after.all fun e => !Region.binds .any e || decide (e.on < x.2)) && ops.toList.zipIdx.all fun y => flowOk2 ops x.1 x.2 y.1 y.2

structure FlowOk (ops : Array Oper) : Prop where
  sel : ∀ (i : Nat) (o : Oper), ops[i]? = some o → ∀ cs b, o.op ≠ .select cs b
  edge : ∀ (i : Nat) (o : Oper), ops[i]? = some o → ∀ e ∈ o.after, Region.binds .any e = true → e.on < i
  uniq : ∀ (i : Nat) (o : Oper) (j : Nat) (p : Oper) (t : Nat), ops[i]? = some o → ops[j]? = some p → o.dst = some t → p.dst = some t → i = j
  look : ∀ (i : Nat) (o : Oper) (j : Nat) (p : Oper) (t : Nat), ops[i]? = some o → ops[j]? = some p → p.dst = some t → t ∈ o.looksAt ops → j < i ∧ ∃ e ∈ o.after, Region.binds .any e = true ∧ e.on = j

theorem FlowOk.of {ops : Array Oper} (h : flowOk ops = true) : FlowOk ops := by
  have hm : ∀ (i : Nat) (o : Oper), ops[i]? = some o → (o, i) ∈ ops.toList.zipIdx := fun i o ho => by
    rw [List.mem_zipIdx_iff_getElem?]; simpa using ho
  unfold flowOk at h
  rw [List.all_eq_true] at h
  have h1 : ∀ (i : Nat) (o : Oper), ops[i]? = some o → (notSelect o.op = true ∧ (∀ e ∈ o.after, Region.binds .any e = true → e.on < i)) ∧ ∀ (j : Nat) (p : Oper), ops[j]? = some p → flowOk2 ops o i p j = true := fun i o ho => by
    have := h (o, i) (hm i o ho)
    simp only [Bool.and_eq_true, List.all_eq_true, Array.all_eq_true_iff_forall_mem, Bool.or_eq_true, Bool.not_eq_true', decide_eq_true_eq] at this
    exact ⟨⟨this.1.1, fun e he hb => (this.1.2 e he).resolve_left (by simp [hb])⟩, fun j p hp => this.2 (p, j) (hm j p hp)⟩
  refine ⟨fun i o ho cs b hs => ?_, fun i o ho e he hb => (h1 i o ho).1.2 e he hb, fun i o j p t ho hp h3 h4 => ?_, fun i o j p t ho hp h3 h4 => ?_⟩
  · have := (h1 i o ho).1.1
    rw [hs] at this
    cases this
  · have := (h1 i o ho).2 j p hp
    simp only [flowOk2, h4, Bool.and_eq_true, Bool.or_eq_true, decide_eq_true_eq, bne_iff_ne, ne_eq] at this
    rcases this.1 with e | e
    · exact e
    · exact absurd h3 e
  · have := (h1 i o ho).2 j p hp
    simp only [flowOk2, h3, Bool.and_eq_true, Bool.or_eq_true, decide_eq_true_eq, Bool.not_eq_true', List.any_eq_true] at this
    rcases this.2 with e | ⟨e1, e, he, h5⟩
    · have : (o.looksAt ops).contains t = true := by simpa using h4
      rw [this] at e; cases e
    · exact ⟨e1, e, by simpa using he, h5.1, h5.2⟩

/-- The frame behind the operations in 'done'. -/
def laid (ops : Array Oper) (vs : Nat → Value) (a0 : Act) (done : Nat → Prop) (a : Act) : Prop :=
  a.defers = a0.defers ∧ a.tmps.size = a0.tmps.size ∧
  (∀ (i : Nat) (o : Oper) (t : Nat), ops[i]? = some o → o.dst = some t → done i → t < a0.tmps.size → a.tmps[t]? = some (vs i)) ∧
  (∀ (t : Nat), (∀ (i : Nat) (o : Oper), ops[i]? = some o → o.dst = some t → ¬ done i) → a.tmps[t]? = a0.tmps[t]?)

section
variable {P : Program} {ops : Array Oper} {S : World → Prop} {Q : Exit → Act → World → Prop} {a0 : Act} {vs : Nat → Value}

theorem laid_agree (hok : FlowOk ops) {i : Nat} {o : Oper} (ho : ops[i]? = some o) {d d' : Nat → Prop} {a a' : Act} (h : laid ops vs a0 d a) (h' : laid ops vs a0 d' a')
    (hd : ∀ e ∈ o.after, Region.binds .any e = true → d e.on) (hd' : ∀ e ∈ o.after, Region.binds .any e = true → d' e.on) :
    ∀ (t : Nat), t ∈ o.looksAt ops → a.tmps[t]? = a'.tmps[t]? := by
  intro t ht
  obtain ⟨_, hs, h1, h2⟩ := h
  obtain ⟨_, hs', h1', h2'⟩ := h'
  by_cases hx : ∃ (j : Nat) (p : Oper), ops[j]? = some p ∧ p.dst = some t
  · obtain ⟨j, p, hp, hpt⟩ := hx
    obtain ⟨_, e, he, hb, hej⟩ := hok.look i o j p t ho hp hpt ht
    have q1 : d j := hej ▸ hd e he hb
    have q2 : d' j := hej ▸ hd' e he hb
    by_cases hlt : t < a0.tmps.size
    · rw [h1 j p t hp hpt q1 hlt, h1' j p t hp hpt q2 hlt]
    · rw [Array.getElem?_eq_none (by omega), Array.getElem?_eq_none (by omega)]
  · rw [h2 t fun j p hp hpt _ => hx ⟨j, p, hp, hpt⟩, h2' t fun j p hp hpt _ => hx ⟨j, p, hp, hpt⟩]

theorem eval_agree {o : Oper} {a a' : Act} (h : ∀ (t : Nat), t ∈ o.looksAt ops → a.tmps[t]? = a'.tmps[t]?) : ∀ x ∈ o.op.operands, a.eval x = a'.eval x := by
  intro x hx
  cases x with
  | tmp t =>
    have ht : t ∈ o.looksAt ops := List.mem_append_left _ (List.mem_filterMap.2 ⟨.tmp t, by simpa using hx, rfl⟩)
    have := h t ht
    simp [Act.eval, this]
  | _ => rfl

theorem wanted_agree {o : Oper} {a a' : Act} (h : ∀ (t : Nat), t ∈ o.looksAt ops → a.tmps[t]? = a'.tmps[t]?) :
    Region.wanted o (yielded ops a.tmps) = Region.wanted o (yielded ops a'.tmps) := by
  unfold Region.wanted
  cases hg : o.guard with
  | none => rfl
  | some gw =>
    obtain ⟨g, want⟩ := gw
    have hy : yielded ops a.tmps g = yielded ops a'.tmps g := by
      unfold yielded
      cases ht : (ops[g]?).bind (·.dst) with
      | none => rfl
      | some t => simp [h t (by simp [Oper.looksAt, hg, ht])]
    simp only [hy]

theorem laid_put (hok : FlowOk ops) {i : Nat} {o : Oper} (ho : ops[i]? = some o) {d : Nat → Prop} {a : Act} (h : laid ops vs a0 d a) (hi : ¬ d i) :
    laid ops vs a0 (fun j => d j ∨ j = i) (a.put o.dst (vs i)) := by
  obtain ⟨h0, hs, h1, h2⟩ := h
  cases hdst : o.dst with
  | none =>
    refine ⟨h0, hs, fun j p t hp hpt hj hlt => ?_, fun t ht => ?_⟩
    · rcases hj with hj | rfl
      · exact h1 j p t hp hpt hj hlt
      · rw [ho] at hp; cases hp; rw [hdst] at hpt; cases hpt
    · exact h2 t fun j p hp hpt hj => ht j p hp hpt (.inl hj)
  | some u =>
    refine ⟨h0, by simpa [Act.put] using hs, fun j p t hp hpt hj hlt => ?_, fun t ht => ?_⟩
    · by_cases hji : j = i
      · subst hji
        rw [ho] at hp; cases hp; rw [hdst] at hpt; cases hpt
        simp only [Act.put]; rw [Array.getElem?_setIfInBounds_self_of_lt (by omega)]
      · have hne : u ≠ t := fun e => hji (hok.uniq j p i o t hp ho hpt (by rw [hdst, e]))
        simp only [Act.put, Array.getElem?_setIfInBounds_ne hne]
        exact h1 j p t hp hpt (hj.resolve_right hji) hlt
    · have hne : u ≠ t := fun e => ht i o ho (by rw [hdst, e]) (.inr rfl)
      simp only [Act.put, Array.getElem?_setIfInBounds_ne hne]
      exact h2 t fun j p hp hpt hj => ht j p hp hpt (.inl hj)

/-- What a flow in the text's order says of each operation by itself. -/
structure Told (P : Program) (ops : Array Oper) (S : World → Prop) (a0 : Act) (vs : Nat → Value) : Prop where
  each : ∀ (i : Nat) (o : Oper), ops[i]? = some o → ∃ a, laid ops vs a0 (· < i) a ∧
    ((Region.wanted o (yielded ops a.tmps) = true ∧ gives P o a S (vs i)) ∨ (Region.wanted o (yielded ops a.tmps) = false ∧ vs i = undef))

theorem flow_told (hok : FlowOk ops) {K : Act → Prop} : ∀ (l : List Oper) (k : Nat) (a : Act) (us : Nat → Value), (∀ j, l[j]? = ops[k + j]?) → laid ops us a0 (· < k) a →
    (∀ (i : Nat) (o : Oper), ops[i]? = some o → i < k → ∃ a, laid ops us a0 (· < i) a ∧ ((Region.wanted o (yielded ops a.tmps) = true ∧ gives P o a S (us i)) ∨ (Region.wanted o (yielded ops a.tmps) = false ∧ us i = undef))) →
    flow P ops S K l a → ∃ vs aF, Told P ops S a0 vs ∧ laid ops vs a0 (fun _ => True) aF ∧ K aF := by
  intro l
  induction l with
  | nil =>
    intro k a us hl ha hp hK
    have hsz : ops.size ≤ k := by
      have := hl 0
      simp at this
      exact this
    refine ⟨us, a, ⟨fun i o ho => hp i o ho (by have := (Array.getElem?_eq_some_iff.1 ho).1; omega)⟩, ?_, hK⟩
    obtain ⟨h0, hs, h1, h2⟩ := ha
    refine ⟨h0, hs, fun i o t ho hot _ hlt => h1 i o t ho hot (by have := (Array.getElem?_eq_some_iff.1 ho).1; omega) hlt, fun t ht => h2 t fun i o ho hot _ => ht i o ho hot trivial⟩
  | cons o l ih =>
    intro k a us hl ha hp hf
    have ho : ops[k]? = some o := by simpa using (hl 0).symm
    have hl' : ∀ j, l[j]? = ops[k + 1 + j]? := fun j => by
      have := hl (j + 1)
      simpa [Nat.add_assoc, Nat.add_comm 1 j] using this
    -- the new list of values
    have key : ∀ v, ((Region.wanted o (yielded ops a.tmps) = true ∧ gives P o a S v) ∨ (Region.wanted o (yielded ops a.tmps) = false ∧ v = undef)) →
        flow P ops S K l (a.put o.dst v) → ∃ vs aF, Told P ops S a0 vs ∧ laid ops vs a0 (fun _ => True) aF ∧ K aF := by
      intro v hv hrest
      let us' : Nat → Value := fun j => if j = k then v else us j
      have hus : ∀ j, j ≠ k → us' j = us j := fun j hj => if_neg hj
      have husk : us' k = v := if_pos rfl
      have conv : ∀ (m : Nat) (b : Act), m ≤ k → laid ops us a0 (· < m) b → laid ops us' a0 (· < m) b := by
        intro m b hm hb
        obtain ⟨h0, hs, h1, h2⟩ := hb
        exact ⟨h0, hs, fun i p t hp1 hp2 hi hlt => by rw [hus i (by omega)]; exact h1 i p t hp1 hp2 hi hlt, h2⟩
      have ha' := laid_put hok ho (conv k a (Nat.le_refl _) ha) (Nat.lt_irrefl k)
      rw [husk] at ha'
      have hsame : (fun j => j < k ∨ j = k) = (fun j => j < k + 1) := by funext j; apply propext; omega
      rw [hsame] at ha'
      refine ih (k + 1) _ us' hl' ha' ?_ hrest
      intro i p hp1 hi
      by_cases hik : i = k
      · subst hik
        rw [ho] at hp1; cases hp1
        refine ⟨a, conv _ a (Nat.le_refl _) ha, ?_⟩
        rw [husk]; exact hv
      · obtain ⟨b, hb, hr⟩ := hp i p hp1 (by omega)
        refine ⟨b, conv i b (by omega) hb, ?_⟩
        rw [hus i hik]; exact hr
    unfold flow at hf
    split at hf
    · rename_i hw
      obtain ⟨v, hv, hrest⟩ := hf
      exact key v (.inl ⟨hw, hv⟩) hrest
    · rename_i hw
      exact key undef (.inr ⟨by simpa using hw, rfl⟩) hf

theorem told_any (hok : FlowOk ops) (ht : Told P ops S a0 vs) {aF : Act} (hF : laid ops vs a0 (fun _ => True) aF) (hQ : ∀ w, S w → Q .normal aF w) :
    ∀ (fuel : Nat) (listed : Array Bool) (a : Act) (w : World), listed.size = ops.size → listed.toList.count false ≤ fuel →
      laid ops vs a0 (fun j => listed.getD j false = true) a → S w → wpAny P .any ops Q fuel listed a w := by
  have hend : ∀ (listed : Array Bool) (a : Act) (w : World), listed.size = ops.size → laid ops vs a0 (fun j => listed.getD j false = true) a → S w → (∀ i, i < ops.size → listed.getD i false = true) → Q .normal a w := by
    intro listed a w hsz hl hS hall
    have : a = aF := by
      obtain ⟨h0, hs, h1, h2⟩ := hl
      obtain ⟨h0', hs', h1', h2'⟩ := hF
      obtain ⟨tm, df⟩ := a
      obtain ⟨tm', df'⟩ := aF
      simp only at h0 hs h1 h2 h0' hs' h1' h2'
      have ht : tm = tm' := by
        apply Array.ext_getElem?
        intro t
        by_cases hx : ∃ (j : Nat) (p : Oper), ops[j]? = some p ∧ p.dst = some t
        · obtain ⟨j, p, hp, hpt⟩ := hx
          have hj : j < ops.size := (Array.getElem?_eq_some_iff.1 hp).1
          by_cases hlt : t < a0.tmps.size
          · rw [h1 j p t hp hpt (hall j hj) hlt, h1' j p t hp hpt trivial hlt]
          · rw [Array.getElem?_eq_none (by omega), Array.getElem?_eq_none (by omega)]
        · rw [h2 t fun j p hp hpt _ => hx ⟨j, p, hp, hpt⟩, h2' t fun j p hp hpt _ => hx ⟨j, p, hp, hpt⟩]
      rw [ht, h0, h0']
    rw [this]; exact hQ w hS
  have hready : ∀ (listed : Array Bool), listed.size = ops.size → Region.ready .any ops listed = [] → ∀ i, i < ops.size → listed.getD i false = true := by
    intro listed hsz hr i
    induction i using Nat.strongRecOn with
    | ind i ih =>
      intro hi
      by_cases hli : listed.getD i false = true
      · exact hli
      · exfalso
        have : i ∈ Region.ready .any ops listed := by
          rw [mem_ready]
          refine ⟨?_, ops[i], Array.getElem?_eq_getElem hi, fun e he hb => ih e.on (hok.edge i _ (Array.getElem?_eq_getElem hi) e he hb) (by have := hok.edge i _ (Array.getElem?_eq_getElem hi) e he hb; omega)⟩
          have hlt : i < listed.size := by omega
          simp [hlt] at hli ⊢
          exact hli
        rw [hr] at this
        cases this
  intro fuel
  induction fuel with
  | zero =>
    intro listed a w hsz hc hl hS
    have hall : ∀ i, i < ops.size → listed.getD i false = true := by
      intro i hi
      have hlt : i < listed.size := by omega
      have h0 : listed.toList.count false = 0 := by omega
      rw [List.count_eq_zero] at h0
      have : listed[i] ≠ false := fun e => h0 (by rw [← e]; simp)
      simpa [hlt] using this
    refine ⟨?_, hend listed a w hsz hl hS hall⟩
    rw [List.eq_nil_iff_forall_not_mem]
    intro i hi
    rw [mem_ready] at hi
    obtain ⟨h1, o, ho, _⟩ := hi
    have hlt : i < ops.size := (Array.getElem?_eq_some_iff.1 ho).1
    have := hall i hlt
    have hlt' : i < listed.size := by omega
    simp [hlt'] at h1 this
    rw [h1] at this; cases this
  | succ fuel ih =>
    intro listed a w hsz hc hl hS
    refine ⟨fun hr => hend listed a w hsz hl hS (hready listed hsz hr), fun i hi => ?_⟩
    rw [mem_ready] at hi
    obtain ⟨hli, o, ho, hedges⟩ := hi
    have hio : i < ops.size := (Array.getElem?_eq_some_iff.1 ho).1
    have hil : i < listed.size := by omega
    have hli' : listed[i] = false := by simpa [hil] using hli
    have hnot : ¬ listed.getD i false = true := by simp [hil, hli']
    have hcnt : (listed.setIfInBounds i true).toList.count false ≤ fuel := by
      rw [Array.toList_setIfInBounds]
      have := List.count_set (l := listed.toList) (i := i) (a := true) (b := false) (by simpa using hil)
      rw [this]
      have hc' : listed.toList.count false ≤ fuel + 1 := hc
      have hpos : 0 < listed.toList.count false := List.count_pos_iff.2 (by rw [← hli']; simp)
      have e1 : (listed.toList[i]'(by simpa using hil) == false) = true := by simp [hli']
      rw [if_pos e1, if_neg (by decide)]
      omega
    have hnext : ∀ w', S w' → wpAny P .any ops Q fuel (listed.setIfInBounds i true) (a.put o.dst (vs i)) w' := by
      intro w' hS'
      refine ih _ _ _ (by simpa using hsz) hcnt ?_ hS'
      have hp := laid_put hok ho hl hnot
      have : (fun j => listed.getD j false = true ∨ j = i) = (fun j => (listed.setIfInBounds i true).getD j false = true) := by
        funext j
        apply propext
        by_cases hj : i = j
        · subst hj; simp [hil]
        · rw [getD_set_ne false hj]
          constructor
          · rintro (h | h)
            · exact h
            · exact absurd h.symm hj
          · exact .inl
      rw [← this]; exact hp
    obtain ⟨b, hb, hr⟩ := ht.each i o ho
    have hag := laid_agree hok ho hl hb hedges (fun e he hbi => hok.edge i o ho e he hbi)
    have hw := wanted_agree (ops := ops) hag
    have hx := execOp_congr o (hok.sel i o ho) (eval_agree (ops := ops) hag)
    unfold wpOp
    simp only [ho]
    rw [hw]
    rcases hr with ⟨hw1, hg⟩ | ⟨hw1, hv⟩
    · rw [if_pos hw1]
      refine .inl ?_
      have hg' := hg w hS
      unfold Oper.wp
      rw [hx]
      generalize (execOp b.eval o).run P w = r at *
      cases r with
      | ok n w' =>
        cases n <;> simp only [givesR, Oper.upon] at hg' ⊢
        case value u => obtain ⟨rfl, h2⟩ := hg'; exact hnext _ h2
        case skip => obtain ⟨h1, h2⟩ := hg'; rw [h1]; exact hnext _ h2
        case enter f args =>
          refine Calls.mono hg' fun e w'' ⟨he, hS''⟩ => ?_
          subst he
          exact hnext _ hS''
      | halt x w' => cases x <;> simp only [givesR] at hg'
    · rw [if_neg (by simp [hw1]), ← hv]
      exact hnext w hS

/-- THE LAW. -/
theorem wp_region_flow {id : Nat} {w : World} (S : World → Prop) (hm : P.follows .mixedOrders = true) (hok : flowOk ops = true) (hS : S w.drew)
    (h : flow P ops S (fun a => ∀ w, S w → Q .normal a w) ops.toList a0) : (Code.region id ops true).wp P Q a0 w := by
  have hok := FlowOk.of hok
  obtain ⟨vs, aF, ht, hF, hK⟩ := flow_told (a0 := a0) hok ops.toList 0 a0 (fun _ => undef) (by simp)
    ⟨rfl, rfl, fun _ _ _ _ _ h => absurd h (Nat.not_lt_zero _), fun _ _ => rfl⟩ (fun _ _ _ h => absurd h (Nat.not_lt_zero _)) h
  refine wp_region_any hm (told_any hok ht hF hK _ _ _ _ (by simp) ?_ ?_ hS)
  · simp
  · refine ⟨rfl, rfl, fun i o t ho _ h => ?_, fun _ _ => rfl⟩
    have hi : i < ops.size := (Array.getElem?_eq_some_iff.1 ho).1
    simp [hi] at h

theorem wp_region_flow_lit {id : Nat} {l : List Oper} {w : World} (S : World → Prop) (hm : P.follows .mixedOrders = true) (hok : flowOk l.toArray = true) (hS : S w.drew)
    (h : flow P l.toArray S (fun a => ∀ w, S w → Q .normal a w) l a0) : (Code.region id l.toArray true).wp P Q a0 w :=
  wp_region_flow S hm hok hS (by simpa using h)

theorem flow_nil {K : Act → Prop} {a : Act} (h : K a) : flow P ops S K [] a := h
theorem flow_take {K : Act → Prop} {a : Act} {o : Oper} {rest : List Oper} {v : Value} (hw : Region.wanted o (yielded ops a.tmps) = true) (hg : ∀ w, S w → givesR P S v ((execOp a.eval o).run P w)) (h : flow P ops S K rest (a.put o.dst v)) : flow P ops S K (o :: rest) a := by
  unfold flow; rw [if_pos hw]; exact ⟨v, hg, h⟩
theorem flow_pass {K : Act → Prop} {a : Act} {o : Oper} {rest : List Oper} (hw : Region.wanted o (yielded ops a.tmps) = false) (h : flow P ops S K rest (a.put o.dst undef)) : flow P ops S K (o :: rest) a := by
  unfold flow; rw [if_neg (by simp [hw])]; exact h
end
end Go.Proofs.YtokhnbdhcehonaaGreat
