/- A region that leaves its order open, some of whose operations turn the world: walked once, where those stand behind one another by the region's own edges, and each other one gives one value in every world that meets S. -/
import Derived.Test.YtokhnbdhcehonaaGreatFlow
set_option linter.unusedSimpArgs false
set_option linter.unusedVariables false
namespace Go.Proofs.YtokhnbdhcehonaaGreat
open Go Go.RowKit

/-- w' is w with new memory. -/
def Ext (w w' : World) : Prop := Below w.heap.size w w'
theorem Ext.refl (w : World) : Ext w w := Below.refl _ _
theorem Ext.trans {a b c : World} (h : Ext a b) (k : Ext b c) : Ext a c := Below.trans h (Below.mono k h.size)

def retK (K : Value → World → Prop) : Ending → World → Prop
  | .returned v, w => K v w
  | _, _ => False

/-- What is asked of the run of an operation that turns the world. -/
def effR (P : Program) (K : Value → World → Prop) : Result Next → Prop
  | .ok (.value u) w' => K u w'
  | .ok .skip w' => K undef w'
  | .ok (.enter f args) w' => Calls P f args w' (retK K)
  | _ => False

section
variable {P : Program} {K : Value → World → Prop} {w : World}
@[go_sem] theorem effR_value (u : Value) : effR P K (.ok (.value u) w) = K u w := rfl
@[go_sem] theorem effR_skip : effR P K (.ok .skip w) = K undef w := rfl
@[go_sem] theorem effR_enter (f : FuncId) (args : Array Value) : effR P K (.ok (.enter f args) w) = Calls P f args w (retK K) := rfl
end

def flow2 (P : Program) (ops : Array Oper) (S : World → Prop) (Q' : Act → World → Prop) : List (Nat × Bool) → Act → World → Prop
  | [], a, w => ∀ w', Ext w w' → S w' → Q' a w'
  | (i, b) :: rest, a, w => ∃ o, ops[i]? = some o ∧
    ((Region.wanted o (yielded ops a.tmps) = false ∧ flow2 P ops S Q' rest (a.put o.dst undef) w) ∨
     (Region.wanted o (yielded ops a.tmps) = true ∧ b = false ∧ ∃ v, (∀ w', S w' → givesR P (fun w'' => S w'' ∧ Ext w' w'') v ((execOp a.eval o).run P w')) ∧ flow2 P ops S Q' rest (a.put o.dst v) w) ∨
     (Region.wanted o (yielded ops a.tmps) = true ∧ b = true ∧ ∀ w', Ext w w' → S w' → effR P (fun u w3 => S w3 ∧ flow2 P ops S Q' rest (a.put o.dst u) w3) ((execOp a.eval o).run P w')))

/-! ### closed facts on the region's text -/
def maskOf (M : List Nat) (o : Oper) : Nat := o.after.toList.foldl (fun s e => if Region.binds .any e then s ||| 2 ^ e.on ||| M.getD e.on 0 else s) 0
def masks : List Oper → List Nat → List Nat
  | [], acc => acc
  | o :: l, acc => masks l (acc ++ [maskOf acc o])
def chainOk (M : List Nat) : List (Nat × Bool) → Option Nat → Bool
  | [], _ => true
  | (i, b) :: rest, last => (match last with | none => true | some k => (M.getD i 0).testBit k) && chainOk M rest (if b then some i else last)
def edgesIn (ops : Array Oper) : List (Nat × Bool) → List Nat → Bool
  | [], _ => true
  | (i, _) :: rest, seen => (match ops[i]? with | none => false | some o => o.after.toList.all fun e => !Region.binds .any e || seen.contains e.on) && !seen.contains i && edgesIn ops rest (i :: seen)
def ordOk (ops : Array Oper) (ord : List (Nat × Bool)) : Bool :=
  let M := masks ops.toList []
  (ops.toList.map (maskOf M) == M) && chainOk M ord none && edgesIn ops ord [] && (List.range ops.size).all fun i => (ord.map (·.1)).contains i

theorem mask_spec (M : List Nat) (k : Nat) : ∀ (l : List Edge) (s : Nat), (l.foldl (fun s e => if Region.binds .any e then s ||| 2 ^ e.on ||| M.getD e.on 0 else s) s).testBit k = true →
    s.testBit k = true ∨ ∃ e ∈ l, Region.binds .any e = true ∧ (e.on = k ∨ (M.getD e.on 0).testBit k = true)
  | [], s, h => .inl h
  | e :: l, s, h => by
    rw [List.foldl_cons] at h
    rcases mask_spec M k l _ h with h1 | ⟨e', he', hb, h2⟩
    · by_cases hbi : Region.binds .any e = true
      · rw [if_pos hbi, Nat.testBit_or, Nat.testBit_or, Bool.or_eq_true, Bool.or_eq_true] at h1
        rcases h1 with (h1 | h1) | h1
        · exact .inl h1
        · exact .inr ⟨e, by simp, hbi, .inl (by simpa [Nat.testBit_two_pow] using h1)⟩
        · exact .inr ⟨e, by simp, hbi, .inr h1⟩
      · rw [if_neg hbi] at h1
        exact .inl h1
    · exact .inr ⟨e', by simp [he'], hb, h2⟩

/-- What stands in an operation's mask is done when the operation may come up. -/
theorem mask_done {ops : Array Oper} (hok : FlowOk ops) {M : List Nat} (hM : ops.toList.map (maskOf M) = M) {D : Nat → Prop}
    (hD : ∀ (i : Nat) (o : Oper), ops[i]? = some o → D i → ∀ e ∈ o.after, Region.binds .any e = true → D e.on) :
    ∀ (i : Nat) (o : Oper), ops[i]? = some o → (∀ e ∈ o.after, Region.binds .any e = true → D e.on) → ∀ k, (M.getD i 0).testBit k = true → D k := by
  intro i
  induction i using Nat.strongRecOn with
  | ind i ih =>
    intro o ho he k hk
    have hMi : M.getD i 0 = maskOf M o := by
      have : M[i]? = some (maskOf M o) := by
        conv => lhs; rw [← hM]
        rw [List.getElem?_map]
        have : ops.toList[i]? = some o := by simpa using ho
        rw [this]; rfl
      rw [List.getD_eq_getElem?_getD, this]; rfl
    rw [hMi] at hk
    rcases mask_spec M k _ _ hk with h0 | ⟨e, hme, hb, h1⟩
    · simp at h0
    · have hme' : e ∈ o.after := by simpa using hme
      rcases h1 with h1 | h1
      · rw [← h1]; exact he e hme' hb
      · have hlt := hok.edge i o ho e hme' hb
        have hio : i < ops.size := (Array.getElem?_eq_some_iff.1 ho).1
        have hoe : ops[e.on]? = some ops[e.on] := Array.getElem?_eq_getElem (by omega)
        exact ih e.on hlt _ hoe (hD e.on _ hoe (he e hme' hb)) k h1

section
variable {P : Program} {ops : Array Oper} {S : World → Prop} {Q : Exit → Act → World → Prop} {a0 : Act}

/-- what is known of the operations of l by themselves, of those alone that have not been done, each behind those ahead of it in l -/
def ToldB (P : Program) (ops : Array Oper) (S : World → Prop) (a0 : Act) (vs : Nat → Value) (D : Nat → Prop) (l : List Nat) : Prop :=
  ∀ (n : Nat) (i : Nat) (o : Oper), l[n]? = some i → ops[i]? = some o → ¬ D i → ∃ a, laid ops vs a0 (· ∈ l.take n) a ∧
    ((Region.wanted o (yielded ops a.tmps) = true ∧ ∀ w', S w' → givesR P (fun w'' => S w'' ∧ Ext w' w'') (vs i) ((execOp a.eval o).run P w')) ∨ (Region.wanted o (yielded ops a.tmps) = false ∧ vs i = undef))

theorem laid_congr {vs us : Nat → Value} {d : Nat → Prop} {a : Act} (h : laid ops vs a0 d a) (hu : ∀ i, d i → us i = vs i) : laid ops us a0 d a := by
  obtain ⟨h0, hs, h1, h2⟩ := h
  exact ⟨h0, hs, fun i o t ho hot hd hlt => by rw [hu i hd]; exact h1 i o t ho hot hd hlt, h2⟩
theorem laid_iff {vs : Nat → Value} {d d' : Nat → Prop} {a : Act} (h : laid ops vs a0 d a) (hd : ∀ i, d i ↔ d' i) : laid ops vs a0 d' a := by
  have : d = d' := by funext i; exact propext (hd i)
  rw [← this]; exact h

/-- The operations up to the next one that turns the world are taken up. -/
theorem absorb (hok : FlowOk ops) {Q' : Act → World → Prop} {D : Nat → Prop} : ∀ (ord2 : List (Nat × Bool)) (l : List Nat) (vs : Nat → Value) (a : Act) (w : World),
    flow2 P ops S Q' ord2 a w → laid ops vs a0 (· ∈ l) a → ToldB P ops S a0 vs D l → (∀ x ∈ ord2, x.1 ∉ l) → (ord2.map (·.1)).Nodup → (∀ x ∈ ord2, ¬ D x.1) →
    ∃ (g r : List (Nat × Bool)) (us : Nat → Value) (aV : Act), ord2 = g ++ r ∧ (∀ x ∈ g, x.2 = false) ∧ (∀ x r', r = x :: r' → x.2 = true) ∧ (∀ i ∈ l, us i = vs i) ∧
      laid ops us a0 (· ∈ l ++ g.map (·.1)) aV ∧ ToldB P ops S a0 us D (l ++ g.map (·.1)) ∧ flow2 P ops S Q' r aV w := by
  intro ord2
  induction ord2 with
  | nil =>
    intro l vs a w hf ha ht _ _ _
    exact ⟨[], [], vs, a, rfl, by simp, by simp, fun _ _ => rfl, by simpa using ha, by simpa using ht, hf⟩
  | cons x rest ih =>
    obtain ⟨i, b⟩ := x
    intro l vs a w hf ha ht hnew hnd hD
    cases b with
    | true => exact ⟨[], (i, true) :: rest, vs, a, rfl, by simp, (by rintro x r' h; cases h; rfl), fun _ _ => rfl, by simpa using ha, by simpa using ht, hf⟩
    | false =>
      obtain ⟨o, ho, hf⟩ := hf
      have hil : i ∉ l := hnew (i, false) (by simp)
      have key : ∀ v, ((Region.wanted o (yielded ops a.tmps) = true ∧ ∀ w', S w' → givesR P (fun w'' => S w'' ∧ Ext w' w'') v ((execOp a.eval o).run P w')) ∨ (Region.wanted o (yielded ops a.tmps) = false ∧ v = undef)) →
          flow2 P ops S Q' rest (a.put o.dst v) w →
          ∃ (g r : List (Nat × Bool)) (us : Nat → Value) (aV : Act), (i, false) :: rest = g ++ r ∧ (∀ x ∈ g, x.2 = false) ∧ (∀ x r', r = x :: r' → x.2 = true) ∧ (∀ i ∈ l, us i = vs i) ∧
            laid ops us a0 (· ∈ l ++ g.map (·.1)) aV ∧ ToldB P ops S a0 us D (l ++ g.map (·.1)) ∧ flow2 P ops S Q' r aV w := by
        intro v hv hrest
        let us : Nat → Value := fun j => if j = i then v else vs j
        have hus : ∀ j, j ≠ i → us j = vs j := fun j hj => if_neg hj
        have husi : us i = v := if_pos rfl
        have ha1 : laid ops us a0 (· ∈ l) a := laid_congr ha fun j hj => hus j fun e => hil (e ▸ hj)
        have ha2 := laid_put hok ho ha1 hil
        rw [husi] at ha2
        have ha3 : laid ops us a0 (· ∈ l ++ [i]) (a.put o.dst v) := laid_iff ha2 fun j => by simp
        have ht3 : ToldB P ops S a0 us D (l ++ [i]) := by
          intro n j p hn hp hDj
          by_cases hnl : n < l.length
          · rw [List.getElem?_append_left hnl] at hn
            obtain ⟨c, hc, hr⟩ := ht n j p hn hp hDj
            have hjl : j ∈ l := List.mem_of_getElem? hn
            refine ⟨c, ?_, ?_⟩
            · rw [List.take_append_of_le_length (by omega)]
              exact laid_congr hc fun m hm => hus m fun e => hil (e ▸ List.mem_of_mem_take hm)
            · rw [hus j fun e => hil (e ▸ hjl)]; exact hr
          · have hn0 : n = l.length := by
              have := (List.getElem?_eq_some_iff.1 hn).1
              simp at this; omega
            subst hn0
            simp at hn
            subst hn
            rw [ho] at hp; cases hp
            refine ⟨a, ?_, ?_⟩
            · rw [List.take_left']
              · exact ha1
              · rfl
            · rw [husi]; exact hv
        simp only [List.map_cons, List.nodup_cons] at hnd
        obtain ⟨g, r, us2, aV, h1, h2, h3, h4, h5, h6, h7⟩ := ih (l ++ [i]) us (a.put o.dst v) w hrest ha3 ht3
          (fun x hx hm => by
            rw [List.mem_append, List.mem_singleton] at hm
            rcases hm with hm | hm
            · exact hnew x (by simp [hx]) hm
            · exact hnd.1 (by rw [← hm]; exact List.mem_map_of_mem hx)) hnd.2 (fun x hx => hD x (by simp [hx]))
        refine ⟨(i, false) :: g, r, us2, aV, by simp [h1], ?_, h3, fun j hj => ?_, ?_, ?_, h7⟩
        · intro x hx
          rcases List.mem_cons.1 hx with rfl | hx
          · rfl
          · exact h2 x hx
        · rw [h4 j (by simp [hj]), hus j fun e => hil (e ▸ hj)]
        · simpa using h5
        · simpa using h6
      rcases hf with ⟨hw, hrest⟩ | ⟨hw, _, v, hg, hrest⟩ | ⟨_, hb, _⟩
      · exact key undef (.inr ⟨hw, rfl⟩) hrest
      · exact key v (.inl ⟨hw, hg⟩) hrest
      · cases hb

theorem chain_mem {M : List Nat} : ∀ (r : List (Nat × Bool)) (k0 : Nat), chainOk M r (some k0) = true → ∀ x ∈ r, ∃ k, (M.getD x.1 0).testBit k = true ∧ (k = k0 ∨ k ∈ r.map (·.1))
  | [], _, _, x, hx => by cases hx
  | (i, b) :: r, k0, h, x, hx => by
    simp only [chainOk, Bool.and_eq_true] at h
    rcases List.mem_cons.1 hx with rfl | hxr
    · exact ⟨k0, h.1, .inl rfl⟩
    · clear hx
      cases b with
      | true =>
        obtain ⟨k, h1, h2⟩ := chain_mem r i h.2 x hxr
        exact ⟨k, h1, .inr (by rcases h2 with rfl | h2 <;> simp [*])⟩
      | false =>
        obtain ⟨k, h1, h2⟩ := chain_mem r k0 h.2 x hxr
        exact ⟨k, h1, by rcases h2 with rfl | h2 <;> simp [*]⟩
theorem chain_drop {M : List Nat} : ∀ (p r : List (Nat × Bool)) (last : Option Nat), chainOk M (p ++ r) last = true → ∃ last', chainOk M r last' = true
  | [], r, last, h => ⟨last, h⟩
  | (i, b) :: p, r, last, h => by
    simp only [List.cons_append, chainOk, Bool.and_eq_true] at h
    exact chain_drop p r _ h.2

theorem edgesIn_spec : ∀ (ord : List (Nat × Bool)) (seen : List Nat), edgesIn ops ord seen = true →
    (ord.map (·.1)).Nodup ∧ (∀ x ∈ ord, x.1 ∉ seen) ∧
    ∀ (n : Nat) (i : Nat) (o : Oper), (ord.map (·.1))[n]? = some i → ops[i]? = some o → ∀ e ∈ o.after, Region.binds .any e = true → e.on ∈ seen ∨ e.on ∈ (ord.map (·.1)).take n
  | [], _, _ => ⟨by simp, by simp, by simp⟩
  | (i, b) :: rest, seen, h => by
    simp only [edgesIn, Bool.and_eq_true, Bool.not_eq_true'] at h
    obtain ⟨⟨h1, h2⟩, h3⟩ := h
    obtain ⟨k1, k2, k3⟩ := edgesIn_spec rest (i :: seen) h3
    have hi : i ∉ seen := by simpa using h2
    refine ⟨?_, ?_, ?_⟩
    · simp only [List.map_cons, List.nodup_cons]
      refine ⟨fun hm => ?_, k1⟩
      obtain ⟨x, hx, he⟩ := List.mem_map.1 hm
      exact k2 x hx (by simp [he])
    · intro x hx
      rcases List.mem_cons.1 hx with rfl | hx
      · exact hi
      · exact fun hm => k2 x hx (by simp [hm])
    · intro n j o hn ho e he hb
      cases n with
      | zero =>
        simp at hn
        subst hn
        rw [ho] at h1
        simp only [List.all_eq_true, Bool.or_eq_true, Bool.not_eq_true'] at h1
        have := (h1 e (by simpa using he)).resolve_left (by simp [hb])
        exact .inl (by simpa using this)
      | succ n =>
        simp only [List.map_cons, List.getElem?_cons_succ] at hn
        rcases k3 n j o hn ho e he hb with h | h
        · rcases List.mem_cons.1 h with h | h
          · exact .inr (by simp [h])
          · exact .inl h
        · exact .inr (by simp [h])

theorem flow2_any (hok : FlowOk ops) {M : List Nat} (hM : ops.toList.map (maskOf M) = M) {idx : List Nat} (hidx : idx.Nodup)
    (hall : ∀ i, i < ops.size → i ∈ idx)
    (hedge : ∀ (n : Nat) (i : Nat) (o : Oper), idx[n]? = some i → ops[i]? = some o → ∀ e ∈ o.after, Region.binds .any e = true → e.on ∈ idx.take n) :
    ∀ (fuel : Nat) (listed : Array Bool) (a : Act) (w : World) (l : List Nat) (ord2 : List (Nat × Bool)) (vs : Nat → Value) (aV : Act) (wV : World) (last : Option Nat),
      listed.size = ops.size → listed.toList.count false ≤ fuel → l ++ ord2.map (·.1) = idx → chainOk M ord2 last = true → (∀ x r', ord2 = x :: r' → x.2 = true) →
      laid ops vs a0 (fun j => listed.getD j false = true) a → laid ops vs a0 (· ∈ l) aV → ToldB P ops S a0 vs (fun j => listed.getD j false = true) l →
      (∀ x ∈ ord2, ¬ listed.getD x.1 false = true) → (∀ (i : Nat) (o : Oper), ops[i]? = some o → listed.getD i false = true → ∀ e ∈ o.after, Region.binds .any e = true → listed.getD e.on false = true) →
      S w → Ext wV w → flow2 P ops S (fun a w => Q .normal a w) ord2 aV wV → wpAny P .any ops Q fuel listed a w := by
  -- all done: the flow is at its end
  have hend : ∀ (listed : Array Bool) (a : Act) (w : World) (l : List Nat) (ord2 : List (Nat × Bool)) (vs : Nat → Value) (aV : Act) (wV : World), listed.size = ops.size → l ++ ord2.map (·.1) = idx →
      laid ops vs a0 (fun j => listed.getD j false = true) a → laid ops vs a0 (· ∈ l) aV → (∀ x ∈ ord2, ¬ listed.getD x.1 false = true) → S w → Ext wV w → flow2 P ops S (fun a w => Q .normal a w) ord2 aV wV →
      (∀ x ∈ ord2, x.1 < ops.size) → (∀ i, i < ops.size → listed.getD i false = true) → Q .normal a w := by
    intro listed a w l ord2 vs aV wV hsz hl hla hlV hun hS hE hf hlt hdone
    have h0 : ord2 = [] := by
      cases ord2 with
      | nil => rfl
      | cons x r => exact absurd (hdone x.1 (hlt x (by simp))) (hun x (by simp))
    subst h0
    have he : a = aV := by
      obtain ⟨h0, hs, h1, h2⟩ := hla
      obtain ⟨h0', hs', h1', h2'⟩ := hlV
      obtain ⟨tm, df⟩ := a
      obtain ⟨tm', df'⟩ := aV
      simp only at h0 hs h1 h2 h0' hs' h1' h2'
      have ht : tm = tm' := by
        apply Array.ext_getElem?
        intro t
        by_cases hx : ∃ (j : Nat) (p : Oper), ops[j]? = some p ∧ p.dst = some t
        · obtain ⟨j, p, hp, hpt⟩ := hx
          have hj : j < ops.size := (Array.getElem?_eq_some_iff.1 hp).1
          have hjl : j ∈ l := by have := hall j hj; rw [← hl] at this; simpa using this
          by_cases hlt : t < a0.tmps.size
          · rw [h1 j p t hp hpt (hdone j hj) hlt, h1' j p t hp hpt hjl hlt]
          · rw [Array.getElem?_eq_none (by omega), Array.getElem?_eq_none (by omega)]
        · rw [h2 t fun j p hp hpt _ => hx ⟨j, p, hp, hpt⟩, h2' t fun j p hp hpt _ => hx ⟨j, p, hp, hpt⟩]
      rw [ht, h0, h0']
    rw [he]
    exact hf w hE hS
  have hready : ∀ (listed : Array Bool), listed.size = ops.size → Region.ready .any ops listed = [] → ∀ i, i < ops.size → listed.getD i false = true := by
    intro listed hsz hr i
    induction i using Nat.strongRecOn with
    | ind i ih =>
      intro hi
      by_cases hli : listed.getD i false = true
      · exact hli
      · exfalso
        have : i ∈ Region.ready .any ops listed := by
          rw [mem_ready]
          refine ⟨?_, ops[i], Array.getElem?_eq_getElem hi, fun e he hb => ih e.on (hok.edge i _ (Array.getElem?_eq_getElem hi) e he hb) (by have := hok.edge i _ (Array.getElem?_eq_getElem hi) e he hb; omega)⟩
          have hlt : i < listed.size := by omega
          simp [hlt] at hli ⊢
          exact hli
        rw [hr] at this
        cases this
  have hord : ∀ (ord2 : List (Nat × Bool)) (aV : Act) (wV : World), flow2 P ops S (fun a w => Q .normal a w) ord2 aV wV → ∀ (l : List Nat), l ++ ord2.map (·.1) = idx → True := fun _ _ _ _ _ _ => trivial
  clear hord
  intro fuel
  induction fuel with
  | zero =>
    intro listed a w l ord2 vs aV wV last hsz hc hl hch hhd hla hlV hT hun hdc hS hE hf
    have hdone : ∀ i, i < ops.size → listed.getD i false = true := by
      intro i hi
      have hlt : i < listed.size := by omega
      have h0 : listed.toList.count false = 0 := by omega
      rw [List.count_eq_zero] at h0
      have : listed[i] ≠ false := fun e => h0 (by rw [← e]; simp)
      simpa [hlt] using this
    have hnil : ord2 = [] := by
      cases ord2 with
      | nil => rfl
      | cons x r =>
        exfalso
        obtain ⟨i, b⟩ := x
        obtain ⟨o, ho, _⟩ := hf
        exact hun (i, b) (by simp) (hdone i (Array.getElem?_eq_some_iff.1 ho).1)
    refine ⟨?_, hend listed a w l ord2 vs aV wV hsz hl hla hlV hun hS hE hf (by rw [hnil]; simp) hdone⟩
    rw [List.eq_nil_iff_forall_not_mem]
    intro i hi
    rw [mem_ready] at hi
    obtain ⟨h1, o, ho, _⟩ := hi
    have hlt : i < ops.size := (Array.getElem?_eq_some_iff.1 ho).1
    have := hdone i hlt
    have hlt' : i < listed.size := by omega
    simp [hlt'] at h1 this
    rw [h1] at this; cases this
  | succ fuel ih =>
    intro listed a w l ord2 vs aV wV last hsz hc hl hch hhd hla hlV hT hun hdc hS hE hf
    refine ⟨fun hr => ?_, fun i hi => ?_⟩
    · have hdone := hready listed hsz hr
      have hnil : ord2 = [] := by
        cases ord2 with
        | nil => rfl
        | cons x r =>
          exfalso
          obtain ⟨i, b⟩ := x
          obtain ⟨o, ho, _⟩ := hf
          exact hun (i, b) (by simp) (hdone i (Array.getElem?_eq_some_iff.1 ho).1)
      exact hend listed a w l ord2 vs aV wV hsz hl hla hlV hun hS hE hf (by rw [hnil]; simp) hdone
    rw [mem_ready] at hi
    obtain ⟨hli, o, ho, hedges⟩ := hi
    have hio : i < ops.size := (Array.getElem?_eq_some_iff.1 ho).1
    have hil : i < listed.size := by omega
    have hli' : listed[i] = false := by simpa [hil] using hli
    have hnot : ¬ listed.getD i false = true := by simp [hil, hli']
    have hcnt : (listed.setIfInBounds i true).toList.count false ≤ fuel := by
      rw [Array.toList_setIfInBounds]
      have := List.count_set (l := listed.toList) (i := i) (a := true) (b := false) (by simpa using hil)
      rw [this]
      have hc' : listed.toList.count false ≤ fuel + 1 := hc
      have hpos : 0 < listed.toList.count false := List.count_pos_iff.2 (by rw [← hli']; simp)
      have e1 : (listed.toList[i]'(by simpa using hil) == false) = true := by simp [hli']
      rw [if_pos e1, if_neg (by decide)]
      omega
    have hset : ∀ j, ((listed.getD j false = true) ∨ j = i) ↔ ((listed.setIfInBounds i true).getD j false = true) := by
      intro j
      by_cases hj : i = j
      · subst hj; simp [hil]
      · rw [getD_set_ne false hj]
        exact ⟨fun h => h.resolve_right fun e => hj e.symm, .inl⟩
    have hdc' : ∀ (k : Nat) (p : Oper), ops[k]? = some p → (listed.setIfInBounds i true).getD k false = true → ∀ e ∈ p.after, Region.binds .any e = true → (listed.setIfInBounds i true).getD e.on false = true := by
      intro k p hp hk e he hb
      rw [← hset] at hk ⊢
      rcases hk with hk | rfl
      · exact .inl (hdc k p hp hk e he hb)
      · rw [ho] at hp; cases hp
        exact .inl (hedges e he hb)
    have hmem : i ∈ l ∨ i ∈ ord2.map (·.1) := by
      have := hall i hio
      rw [← hl] at this
      exact List.mem_append.1 this
    have hndl : (l ++ ord2.map (·.1)).Nodup := by rw [hl]; exact hidx
    rcases hmem with hmem | hmem
    · -- an operation that is known by itself
      obtain ⟨n, hn⟩ := List.getElem?_of_mem hmem
      have hnl : n < l.length := (List.getElem?_eq_some_iff.1 hn).1
      obtain ⟨b, hb, hr⟩ := hT n i o hn ho hnot
      have hidn : idx[n]? = some i := by rw [← hl, List.getElem?_append_left hnl]; exact hn
      have htake : idx.take n = l.take n := by rw [← hl, List.take_append_of_le_length (by omega)]
      have hag := laid_agree hok ho hla hb hedges (fun e he hbi => by have := hedge n i o hidn ho e he hbi; rw [htake] at this; exact this)
      have hw := wanted_agree (ops := ops) hag
      have hx := execOp_congr o (hok.sel i o ho) (eval_agree (ops := ops) hag)
      have hnext : ∀ w', S w' → Ext w w' → wpAny P .any ops Q fuel (listed.setIfInBounds i true) (a.put o.dst (vs i)) w' := by
        intro w' hS' hE'
        refine ih _ _ _ l ord2 vs aV wV last (by simpa using hsz) hcnt hl hch hhd (laid_iff (laid_put hok ho hla hnot) hset) hlV ?_ ?_ hdc' hS' (hE.trans hE') hf
        · intro n' j p hn' hp hDj
          exact hT n' j p hn' hp fun h => hDj ((hset j).1 (.inl h))
        · intro x hx hD
          rw [← hset] at hD
          rcases hD with hD | hD
          · exact hun x hx hD
          · rw [List.nodup_append] at hndl
            exact hndl.2.2 i hmem x.1 (List.mem_map_of_mem hx) hD.symm
      unfold wpOp
      simp only [ho]
      rw [hw]
      rcases hr with ⟨hw1, hg⟩ | ⟨hw1, hv⟩
      · rw [if_pos hw1]
        refine .inl ?_
        have hg' := hg w hS
        unfold Oper.wp
        rw [hx]
        generalize (execOp b.eval o).run P w = r at *
        cases r with
        | ok nx w' =>
          cases nx <;> simp only [givesR, Oper.upon] at hg' ⊢
          case value u => obtain ⟨rfl, h2, h3⟩ := hg'; exact hnext _ h2 h3
          case skip => obtain ⟨h1, h2, h3⟩ := hg'; rw [h1]; exact hnext _ h2 h3
          case enter f args =>
            refine Calls.mono hg' fun e w'' ⟨he, h2, h3⟩ => ?_
            subst he
            exact hnext _ h2 h3
        | halt x w' => cases x <;> simp only [givesR] at hg'
      · rw [if_neg (by simp [hw1]), ← hv]
        exact hnext w hS (Ext.refl w)
    · -- an operation of those that are left: it is the first
      cases ord2 with
      | nil => simp at hmem
      | cons x rest =>
        obtain ⟨e0, b0⟩ := x
        have hb0 : b0 = true := hhd (e0, b0) rest rfl
        subst hb0
        have hch1 : chainOk M rest (some e0) = true := by simp only [chainOk, Bool.and_eq_true] at hch; exact hch.2
        have hie : i = e0 := by
          rcases List.mem_cons.1 hmem with h | h
          · exact h
          · exfalso
            obtain ⟨y, hy, rfl⟩ := List.mem_map.1 h
            obtain ⟨k, hk, hk2⟩ := chain_mem rest e0 hch1 y hy
            have hD := mask_done hok hM (D := fun j => listed.getD j false = true) hdc y.1 o ho hedges k hk
            rcases hk2 with rfl | hk2
            · exact hun (k, true) (by simp) hD
            · obtain ⟨z, hz, rfl⟩ := List.mem_map.1 hk2
              exact hun z (by simp [hz]) hD
        subst hie
        simp only [List.map_cons] at hndl hl
        have hil2 : i ∉ l := by
          rw [List.nodup_append] at hndl
          exact fun hm => hndl.2.2 i hm i (by simp) rfl
        obtain ⟨o', ho', hf⟩ := hf
        rw [ho] at ho'
        cases ho'
        have hidn : idx[l.length]? = some i := by rw [← hl]; simp
        have htake : idx.take l.length = l := by rw [← hl]; simp
        have hag := laid_agree hok ho hla hlV hedges (fun e he hbi => by have := hedge l.length i o hidn ho e he hbi; rw [htake] at this; exact this)
        have hw := wanted_agree (ops := ops) hag
        have hx := execOp_congr o (hok.sel i o ho) (eval_agree (ops := ops) hag)
        -- behind the operation: take up what comes till the next one that turns the world
        have hnext : ∀ (u : Value) (w3 : World), S w3 → (∃ wV', Ext wV' w3 ∧ flow2 P ops S (fun a w => Q .normal a w) rest (aV.put o.dst u) wV') → wpAny P .any ops Q fuel (listed.setIfInBounds i true) (a.put o.dst u) w3 := by
          intro u w3 hS3 ⟨wV', hE3, hrest⟩
          let us : Nat → Value := fun j => if j = i then u else vs j
          have hus : ∀ j, j ≠ i → us j = vs j := fun j hj => if_neg hj
          have husi : us i = u := if_pos rfl
          have hV1 : laid ops us a0 (· ∈ l) aV := laid_congr hlV fun j hj => hus j fun e => hil2 (e ▸ hj)
          have hV2 := laid_put hok ho hV1 hil2
          rw [husi] at hV2
          have hV3 : laid ops us a0 (· ∈ l ++ [i]) (aV.put o.dst u) := laid_iff hV2 fun j => by simp
          have ha1 : laid ops us a0 (fun j => listed.getD j false = true) a := laid_congr hla fun j hj => hus j fun e => hnot (e ▸ hj)
          have ha2 := laid_put hok ho ha1 hnot
          rw [husi] at ha2
          have ha3 := laid_iff ha2 hset
          have hT3 : ToldB P ops S a0 us (fun j => (listed.setIfInBounds i true).getD j false = true) (l ++ [i]) := by
            intro n j p hn hp hDj
            by_cases hnl : n < l.length
            · rw [List.getElem?_append_left hnl] at hn
              have hjl : j ∈ l := List.mem_of_getElem? hn
              obtain ⟨c, hc, hr⟩ := hT n j p hn hp fun h => hDj ((hset j).1 (.inl h))
              refine ⟨c, ?_, ?_⟩
              · rw [List.take_append_of_le_length (by omega)]
                exact laid_congr hc fun m hm => hus m fun e => hil2 (e ▸ List.mem_of_mem_take hm)
              · rw [hus j fun e => hil2 (e ▸ hjl)]; exact hr
            · exfalso
              have hn0 : n = l.length := by
                have := (List.getElem?_eq_some_iff.1 hn).1
                simp at this; omega
              subst hn0
              simp at hn
              exact hDj ((hset j).1 (.inr hn.symm))
          rw [List.nodup_append] at hndl
          obtain ⟨hn1, hn2, hn3⟩ := hndl
          simp only [List.nodup_cons] at hn2
          obtain ⟨g, r, us2, aV', h1, h2, h3, h4, h5, h6, h7⟩ := absorb hok rest (l ++ [i]) us (aV.put o.dst u) wV' hrest hV3 hT3
            (fun x hx hm => by
              rw [List.mem_append, List.mem_singleton] at hm
              rcases hm with hm | hm
              · exact hn3 x.1 hm x.1 (by simp only [List.mem_cons]; exact .inr (List.mem_map_of_mem hx)) rfl
              · exact hn2.1 (by rw [← hm]; exact List.mem_map_of_mem hx)) hn2.2
            (fun x hx hD => by
              rw [← hset] at hD
              rcases hD with hD | hD
              · exact hun x (by simp [hx]) hD
              · exact hn2.1 (by rw [← hD]; exact List.mem_map_of_mem hx))
          have hdl : ∀ j, (listed.setIfInBounds i true).getD j false = true → j ∈ l ++ [i] := by
            intro j hj
            have hjs : j < ops.size := by
              rcases Nat.lt_or_ge j ops.size with h | h
              · exact h
              · have : ¬ j < (listed.setIfInBounds i true).size := by simp; omega
                simp [Array.getElem?_eq_none (Nat.le_of_not_lt this)] at hj
            have := hall j hjs
            rw [← hl] at this
            rw [List.mem_append] at this ⊢
            rcases this with h | h
            · exact .inl h
            · rcases List.mem_cons.1 h with h | h
              · exact .inr (by simp [h])
              · exfalso
                obtain ⟨y, hy, rfl⟩ := List.mem_map.1 h
                rw [← hset] at hj
                rcases hj with hj | hj
                · exact hun y (by simp [hy]) hj
                · exact hn2.1 (by rw [← hj]; exact List.mem_map_of_mem hy)
          obtain ⟨last', hlast'⟩ := chain_drop g r (some i) (by rw [← h1]; exact hch1)
          refine ih _ _ _ (l ++ [i] ++ g.map (·.1)) r us2 aV' wV' last' (by simpa using hsz) hcnt ?_ hlast' h3 (laid_congr ha3 fun j hj => h4 j (hdl j hj)) h5 h6 ?_ hdc' hS3 hE3 h7
          · rw [← hl, h1]; simp
          · intro x hx hD
            have := hdl x.1 hD
            rw [List.mem_append, List.mem_singleton] at this
            have hxr : x ∈ rest := by rw [h1]; simp [hx]
            rcases this with h | h
            · exact hn3 x.1 h x.1 (by simp only [List.mem_cons]; exact .inr (List.mem_map_of_mem hxr)) rfl
            · exact hn2.1 (by rw [← h]; exact List.mem_map_of_mem hxr)
        unfold wpOp
        simp only [ho]
        rw [hw]
        rcases hf with ⟨hw1, hrest⟩ | ⟨_, hb, _⟩ | ⟨hw1, _, hf⟩
        · rw [if_neg (by simp [hw1])]
          exact hnext undef w hS ⟨wV, hE, hrest⟩
        · cases hb
        · rw [if_pos hw1]
          refine .inl ?_
          have hg' := hf w hE hS
          unfold Oper.wp
          rw [hx]
          generalize (execOp aV.eval o).run P w = r at *
          cases r with
          | ok nx w' =>
            cases nx <;> simp only [effR, Oper.upon] at hg' ⊢
            case value u => exact hnext _ _ hg'.1 ⟨w', Ext.refl _, hg'.2⟩
            case skip => exact hnext _ _ hg'.1 ⟨w', Ext.refl _, hg'.2⟩
            case enter f args =>
              refine Calls.mono hg' fun e w'' he => ?_
              cases e with
              | returned v => exact hnext _ _ he.1 ⟨w'', Ext.refl _, he.2⟩
              | panicked c => exact he.elim
              | outgrown => exact he.elim
          | halt x w' => cases x <;> simp only [effR] at hg'

/-- THE LAW. 'ord': the operations in an order of one's own that the edges allow; 'true': it turns the world. -/
theorem wp_region_flow2 {id : Nat} {w : World} (ord : List (Nat × Bool)) (S : World → Prop) (hm : P.follows .mixedOrders = true) (hok : flowOk ops = true) (hord : ordOk ops ord = true) (hS : S w.drew)
    (h : flow2 P ops S (fun a w => Q .normal a w) ord a0 w.drew) : (Code.region id ops true).wp P Q a0 w := by
  have hok := FlowOk.of hok
  simp only [ordOk, Bool.and_eq_true, beq_iff_eq, List.all_eq_true] at hord
  obtain ⟨⟨⟨hM, hch⟩, hed⟩, hall⟩ := hord
  obtain ⟨k1, _, k3⟩ := edgesIn_spec ord [] hed
  have hl0 : laid ops (fun _ => undef) a0 (· ∈ ([] : List Nat)) a0 := ⟨rfl, rfl, fun _ _ _ _ _ h _ => absurd h List.not_mem_nil, fun _ _ => rfl⟩
  have hbase : ∀ j, ¬ (Array.replicate ops.size false).getD j false = true := by
    intro j hj
    by_cases h : j < ops.size <;> simp [h] at hj
  obtain ⟨g, r, us, aV, h1, h2, h3, h4, h5, h6, h7⟩ := absorb (D := fun j => (Array.replicate ops.size false).getD j false = true) hok ord [] (fun _ => undef) a0 w.drew h hl0 (fun _ _ _ h => by simp at h) (by simp) k1 (fun x _ => hbase x.1)
  obtain ⟨last', hlast'⟩ := chain_drop g r none (by rw [← h1]; exact hch)
  refine wp_region_any hm ?_
  refine flow2_any (S := S) hok hM k1 (fun i hi => by have := hall i (by simpa using hi); simpa using this) (fun n i o hn ho e he hb => (k3 n i o hn ho e he hb).resolve_left (by simp)) ops.size _ a0 w.drew ([] ++ g.map (·.1)) r us aV w.drew last' (by simp) (by simp) (by rw [h1]; simp) hlast' h3 ?_ h5 h6 (fun x _ => hbase x.1) (fun i o ho hD => absurd hD (hbase i)) hS (Ext.refl _) h7
  exact laid_congr (laid_iff hl0 fun j => ⟨fun h => absurd h List.not_mem_nil, fun h => absurd h (hbase j)⟩) fun j hj => absurd hj (hbase j)

theorem wp_region_flow2_lit {id : Nat} {l : List Oper} {w : World} (ord : List (Nat × Bool)) (S : World → Prop) (hm : P.follows .mixedOrders = true) (hok : flowOk l.toArray = true) (hord : ordOk l.toArray ord = true) (hS : S w.drew)
    (h : flow2 P l.toArray S (fun a w => Q .normal a w) ord a0 w.drew) : (Code.region id l.toArray true).wp P Q a0 w :=
  wp_region_flow2 ord S hm hok hord hS h

theorem flow2_nil {Q' : Act → World → Prop} {a : Act} {w : World} (h : ∀ w', Ext w w' → S w' → Q' a w') : flow2 P ops S Q' [] a w := h
theorem lit_at {l : List Oper} {i : Nat} {o : Oper} (h : l[i]? = some o) : l.toArray[i]? = some o := by simpa using h
theorem flow2_take {l : List Oper} {Q' : Act → World → Prop} {a : Act} {w : World} {i : Nat} {o : Oper} {rest : List (Nat × Bool)} {v : Value} (hi : l[i]? = some o) (hw : Region.wanted o (yielded l.toArray a.tmps) = true)
    (hg : ∀ w', S w' → givesR P (fun w'' => S w'' ∧ Ext w' w'') v ((execOp a.eval o).run P w')) (h : flow2 P l.toArray S Q' rest (a.put o.dst v) w) : flow2 P l.toArray S Q' ((i, false) :: rest) a w :=
  ⟨o, lit_at hi, .inr (.inl ⟨hw, rfl, v, hg, h⟩)⟩
theorem flow2_pass {l : List Oper} {Q' : Act → World → Prop} {a : Act} {w : World} {i : Nat} {b : Bool} {o : Oper} {rest : List (Nat × Bool)} (hi : l[i]? = some o) (hw : Region.wanted o (yielded l.toArray a.tmps) = false)
    (h : flow2 P l.toArray S Q' rest (a.put o.dst undef) w) : flow2 P l.toArray S Q' ((i, b) :: rest) a w :=
  ⟨o, lit_at hi, .inl ⟨hw, h⟩⟩
theorem flow2_turn {l : List Oper} {Q' : Act → World → Prop} {a : Act} {w : World} {i : Nat} {o : Oper} {rest : List (Nat × Bool)} (hi : l[i]? = some o) (hw : Region.wanted o (yielded l.toArray a.tmps) = true)
    (h : ∀ w', Ext w w' → S w' → ∀ K : Value → World → Prop, (∀ u w3, S w3 → flow2 P l.toArray S Q' rest (a.put o.dst u) w3 → K u w3) → effR P K ((execOp a.eval o).run P w')) : flow2 P l.toArray S Q' ((i, true) :: rest) a w :=
  ⟨o, lit_at hi, .inr (.inr ⟨hw, rfl, fun w' hE hS => h w' hE hS _ fun u w3 h1 h2 => ⟨h1, h2⟩⟩)⟩
end
end Go.Proofs.YtokhnbdhcehonaaGreat
