/- The law of Flow2 for regions in which two operations that turn the world may come first, either of them. Printed off Flow2's proof by mka.py. -/
import Derived.Test.YtokhnbdhcehonaaGreatFlow2
set_option linter.unusedSimpArgs false
set_option linter.unusedVariables false
namespace Go.Proofs.YtokhnbdhcehonaaGreat.A2
open Go Go.RowKit
section
variable {P : Program} {ops : Array Oper} {S : World → Prop} {Q : Exit → Act → World → Prop} {a0 : Act}
/-- one step: the first of those that are left -/
theorem flow2_head (hok : FlowOk ops) {M : List Nat} (hM : ops.toList.map (maskOf M) = M) {idx : List Nat} (hidx : idx.Nodup)
    (hall : ∀ i, i < ops.size → i ∈ idx)
    (hedge : ∀ (n : Nat) (i : Nat) (o : Oper), idx[n]? = some i → ops[i]? = some o → ∀ e ∈ o.after, Region.binds .any e = true → e.on ∈ idx.take n)
    (fuel : Nat) (listed : Array Bool) (a : Act) (w : World) (l : List Nat) (i : Nat) (rest : List (Nat × Bool)) (vs : Nat → Value) (aV : Act) (wV : World) (lst : Option Nat)
    (hsz : listed.size = ops.size) (hc : listed.toList.count false ≤ fuel + 1) (hl : l ++ ((i, true) :: rest).map (·.1) = idx) (hch1 : chainOk M rest lst = true)
    (hla : laid ops vs a0 (fun j => listed.getD j false = true) a) (hlV : laid ops vs a0 (· ∈ l) aV) (hT : ToldB P ops S a0 vs (fun j => listed.getD j false = true) l)
    (hun : ∀ x ∈ (i, true) :: rest, ¬ listed.getD x.1 false = true) (hdc : ∀ (i : Nat) (o : Oper), ops[i]? = some o → listed.getD i false = true → ∀ e ∈ o.after, Region.binds .any e = true → listed.getD e.on false = true)
    (hS : S w) (hE : Ext wV w) (hf : flow2 P ops S (fun a w => Q .normal a w) ((i, true) :: rest) aV wV) (hi : i ∈ Region.ready .any ops listed) :
    wpOp P ops Q i (fun a' w' => wpAny P .any ops Q fuel (listed.setIfInBounds i true) a' w') a w := by
  have ih := flow2_any (P := P) (S := S) (Q := Q) (a0 := a0) hok hM hidx hall hedge fuel
  rw [mem_ready] at hi
  obtain ⟨hli, o, ho, hedges⟩ := hi
  have hio : i < ops.size := (Array.getElem?_eq_some_iff.1 ho).1
  have hil : i < listed.size := by omega
  have hli' : listed[i] = false := by simpa [hil] using hli
  have hnot : ¬ listed.getD i false = true := by simp [hil, hli']
  have hcnt : (listed.setIfInBounds i true).toList.count false ≤ fuel := by
    rw [Array.toList_setIfInBounds]
    have := List.count_set (l := listed.toList) (i := i) (a := true) (b := false) (by simpa using hil)
    rw [this]
    have hc' : listed.toList.count false ≤ fuel + 1 := hc
    have hpos : 0 < listed.toList.count false := List.count_pos_iff.2 (by rw [← hli']; simp)
    have e1 : (listed.toList[i]'(by simpa using hil) == false) = true := by simp [hli']
    rw [if_pos e1, if_neg (by decide)]
    omega
  have hset : ∀ j, ((listed.getD j false = true) ∨ j = i) ↔ ((listed.setIfInBounds i true).getD j false = true) := by
    intro j
    by_cases hj : i = j
    · subst hj; simp [hil]
    · rw [getD_set_ne false hj]
      exact ⟨fun h => h.resolve_right fun e => hj e.symm, .inl⟩
  have hdc' : ∀ (k : Nat) (p : Oper), ops[k]? = some p → (listed.setIfInBounds i true).getD k false = true → ∀ e ∈ p.after, Region.binds .any e = true → (listed.setIfInBounds i true).getD e.on false = true := by
    intro k p hp hk e he hb
    rw [← hset] at hk ⊢
    rcases hk with hk | rfl
    · exact .inl (hdc k p hp hk e he hb)
    · rw [ho] at hp; cases hp
      exact .inl (hedges e he hb)
  have hndl : (l ++ ((i, true) :: rest).map (·.1)).Nodup := by rw [hl]; exact hidx
  simp only [List.map_cons] at hndl hl
  have hil2 : i ∉ l := by
    rw [List.nodup_append] at hndl
    exact fun hm => hndl.2.2 i hm i (by simp) rfl
  obtain ⟨o', ho', hf⟩ := hf
  rw [ho] at ho'
  cases ho'
  have hidn : idx[l.length]? = some i := by rw [← hl]; simp
  have htake : idx.take l.length = l := by rw [← hl]; simp
  have hag := laid_agree hok ho hla hlV hedges (fun e he hbi => by have := hedge l.length i o hidn ho e he hbi; rw [htake] at this; exact this)
  have hw := wanted_agree (ops := ops) hag
  have hx := execOp_congr o (hok.sel i o ho) (eval_agree (ops := ops) hag)
  -- behind the operation: take up what comes till the next one that turns the world
  have hnext : ∀ (u : Value) (w3 : World), S w3 → (∃ wV', Ext wV' w3 ∧ flow2 P ops S (fun a w => Q .normal a w) rest (aV.put o.dst u) wV') → wpAny P .any ops Q fuel (listed.setIfInBounds i true) (a.put o.dst u) w3 := by
    intro u w3 hS3 ⟨wV', hE3, hrest⟩
    let us : Nat → Value := fun j => if j = i then u else vs j
    have hus : ∀ j, j ≠ i → us j = vs j := fun j hj => if_neg hj
    have husi : us i = u := if_pos rfl
    have hV1 : laid ops us a0 (· ∈ l) aV := laid_congr hlV fun j hj => hus j fun e => hil2 (e ▸ hj)
    have hV2 := laid_put hok ho hV1 hil2
    rw [husi] at hV2
    have hV3 : laid ops us a0 (· ∈ l ++ [i]) (aV.put o.dst u) := laid_iff hV2 fun j => by simp
    have ha1 : laid ops us a0 (fun j => listed.getD j false = true) a := laid_congr hla fun j hj => hus j fun e => hnot (e ▸ hj)
    have ha2 := laid_put hok ho ha1 hnot
    rw [husi] at ha2
    have ha3 := laid_iff ha2 hset
    have hT3 : ToldB P ops S a0 us (fun j => (listed.setIfInBounds i true).getD j false = true) (l ++ [i]) := by
      intro n j p hn hp hDj
      by_cases hnl : n < l.length
      · rw [List.getElem?_append_left hnl] at hn
        have hjl : j ∈ l := List.mem_of_getElem? hn
        obtain ⟨c, hc, hr⟩ := hT n j p hn hp fun h => hDj ((hset j).1 (.inl h))
        refine ⟨c, ?_, ?_⟩
        · rw [List.take_append_of_le_length (by omega)]
          exact laid_congr hc fun m hm => hus m fun e => hil2 (e ▸ List.mem_of_mem_take hm)
        · rw [hus j fun e => hil2 (e ▸ hjl)]; exact hr
      · exfalso
        have hn0 : n = l.length := by
          have := (List.getElem?_eq_some_iff.1 hn).1
          simp at this; omega
        subst hn0
        simp at hn
        exact hDj ((hset j).1 (.inr hn.symm))
    rw [List.nodup_append] at hndl
    obtain ⟨hn1, hn2, hn3⟩ := hndl
    simp only [List.nodup_cons] at hn2
    obtain ⟨g, r, us2, aV', h1, h2, h3, h4, h5, h6, h7⟩ := absorb hok rest (l ++ [i]) us (aV.put o.dst u) wV' hrest hV3 hT3
      (fun x hx hm => by
        rw [List.mem_append, List.mem_singleton] at hm
        rcases hm with hm | hm
        · exact hn3 x.1 hm x.1 (by simp only [List.mem_cons]; exact .inr (List.mem_map_of_mem hx)) rfl
        · exact hn2.1 (by rw [← hm]; exact List.mem_map_of_mem hx)) hn2.2
      (fun x hx hD => by
        rw [← hset] at hD
        rcases hD with hD | hD
        · exact hun x (by simp [hx]) hD
        · exact hn2.1 (by rw [← hD]; exact List.mem_map_of_mem hx))
    have hdl : ∀ j, (listed.setIfInBounds i true).getD j false = true → j ∈ l ++ [i] := by
      intro j hj
      have hjs : j < ops.size := by
        rcases Nat.lt_or_ge j ops.size with h | h
        · exact h
        · have : ¬ j < (listed.setIfInBounds i true).size := by simp; omega
          simp [Array.getElem?_eq_none (Nat.le_of_not_lt this)] at hj
      have := hall j hjs
      rw [← hl] at this
      rw [List.mem_append] at this ⊢
      rcases this with h | h
      · exact .inl h
      · rcases List.mem_cons.1 h with h | h
        · exact .inr (by simp [h])
        · exfalso
          obtain ⟨y, hy, rfl⟩ := List.mem_map.1 h
          rw [← hset] at hj
          rcases hj with hj | hj
          · exact hun y (by simp [hy]) hj
          · exact hn2.1 (by rw [← hj]; exact List.mem_map_of_mem hy)
    obtain ⟨last', hlast'⟩ := chain_drop g r lst (by rw [← h1]; exact hch1)
    refine ih _ _ _ (l ++ [i] ++ g.map (·.1)) r us2 aV' wV' last' (by simpa using hsz) hcnt ?_ hlast' h3 (laid_congr ha3 fun j hj => h4 j (hdl j hj)) h5 h6 ?_ hdc' hS3 hE3 h7
    · rw [← hl, h1]; simp
    · intro x hx hD
      have := hdl x.1 hD
      rw [List.mem_append, List.mem_singleton] at this
      have hxr : x ∈ rest := by rw [h1]; simp [hx]
      rcases this with h | h
      · exact hn3 x.1 h x.1 (by simp only [List.mem_cons]; exact .inr (List.mem_map_of_mem hxr)) rfl
      · exact hn2.1 (by rw [← h]; exact List.mem_map_of_mem hxr)
  unfold wpOp
  simp only [ho]
  rw [hw]
  rcases hf with ⟨hw1, hrest⟩ | ⟨_, hb, _⟩ | ⟨hw1, _, hf⟩
  · rw [if_neg (by simp [hw1])]
    exact hnext undef w hS ⟨wV, hE, hrest⟩
  · cases hb
  · rw [if_pos hw1]
    refine .inl ?_
    have hg' := hf w hE hS
    unfold Oper.wp
    rw [hx]
    generalize (execOp aV.eval o).run P w = r at *
    cases r with
    | ok nx w' =>
      cases nx <;> simp only [effR, Oper.upon] at hg' ⊢
      case value u => exact hnext _ _ hg'.1 ⟨w', Ext.refl _, hg'.2⟩
      case skip => exact hnext _ _ hg'.1 ⟨w', Ext.refl _, hg'.2⟩
      case enter f args =>
        refine Calls.mono hg' fun e w'' he => ?_
        cases e with
        | returned v => exact hnext _ _ he.1 ⟨w'', Ext.refl _, he.2⟩
        | panicked c => exact he.elim
        | outgrown => exact he.elim
    | halt x w' => cases x <;> simp only [effR] at hg'


/-- either of two comes first -/
theorem flow2_alt (hok : FlowOk ops) {M : List Nat} (hM : ops.toList.map (maskOf M) = M) {idx idB : List Nat} (hidx : idx.Nodup) (hidB : idB.Nodup)
    (hall : ∀ i, i < ops.size → i ∈ idx) (halB : ∀ i, i < ops.size → i ∈ idB)
    (hedge : ∀ (n : Nat) (i : Nat) (o : Oper), idx[n]? = some i → ops[i]? = some o → ∀ e ∈ o.after, Region.binds .any e = true → e.on ∈ idx.take n)
    (hedB : ∀ (n : Nat) (i : Nat) (o : Oper), idB[n]? = some i → ops[i]? = some o → ∀ e ∈ o.after, Region.binds .any e = true → e.on ∈ idB.take n)
    (l : List Nat) (x y : Nat) (rA rB : List (Nat × Bool)) (vs : Nat → Value) (aV : Act) (wV : World) (lA lB : Option Nat)
    (hl : l ++ ((x, true) :: rA).map (·.1) = idx) (hlB : l ++ ((y, true) :: rB).map (·.1) = idB) (hcA : chainOk M rA lA = true) (hcB : chainOk M rB lB = true)
    (hlV : laid ops vs a0 (· ∈ l) aV) (hno : ∀ k, k < ops.size → k ∈ l ∨ k = x ∨ k = y ∨ (M.getD k 0).testBit x = true ∨ (M.getD k 0).testBit y = true)
    (hfA : flow2 P ops S (fun a w => Q .normal a w) ((x, true) :: rA) aV wV) (hfB : flow2 P ops S (fun a w => Q .normal a w) ((y, true) :: rB) aV wV) :
    ∀ (fuel : Nat) (listed : Array Bool) (a : Act) (w : World),
      listed.size = ops.size → listed.toList.count false ≤ fuel →
      laid ops vs a0 (fun j => listed.getD j false = true) a → ToldB P ops S a0 vs (fun j => listed.getD j false = true) l →
      (∀ z ∈ (x, true) :: rA, ¬ listed.getD z.1 false = true) → (∀ z ∈ (y, true) :: rB, ¬ listed.getD z.1 false = true) → (∀ (i : Nat) (o : Oper), ops[i]? = some o → listed.getD i false = true → ∀ e ∈ o.after, Region.binds .any e = true → listed.getD e.on false = true) →
      S w → Ext wV w → wpAny P .any ops Q fuel listed a w := by
  have hready : ∀ (listed : Array Bool), listed.size = ops.size → Region.ready .any ops listed = [] → ∀ i, i < ops.size → listed.getD i false = true := by
    intro listed hsz hr i
    induction i using Nat.strongRecOn with
    | ind i ih =>
      intro hi
      by_cases hli : listed.getD i false = true
      · exact hli
      · exfalso
        have : i ∈ Region.ready .any ops listed := by
          rw [mem_ready]
          refine ⟨?_, ops[i], Array.getElem?_eq_getElem hi, fun e he hb => ih e.on (hok.edge i _ (Array.getElem?_eq_getElem hi) e he hb) (by have := hok.edge i _ (Array.getElem?_eq_getElem hi) e he hb; omega)⟩
          have hlt : i < listed.size := by omega
          simp [hlt] at hli ⊢
          exact hli
        rw [hr] at this
        cases this
  have hxs : x < ops.size := by
    obtain ⟨o, ho, _⟩ := hfA
    exact (Array.getElem?_eq_some_iff.1 ho).1
  intro fuel
  induction fuel with
  | zero =>
    intro listed a w hsz hc hla hT hunA hunB hdc hS hE
    exfalso
    have hlt : x < listed.size := by omega
    have h0 : listed.toList.count false = 0 := by omega
    rw [List.count_eq_zero] at h0
    have h1 : listed[x] ≠ false := fun e => h0 (by rw [← e]; simp)
    exact hunA (x, true) (by simp) (by simpa [hlt] using h1)
  | succ fuel ih =>
    intro listed a w hsz hc hla hT hunA hunB hdc hS hE
    refine ⟨fun hr => absurd (hready listed hsz hr x hxs) (hunA (x, true) (by simp)), fun i hi => ?_⟩
    by_cases hix : i = x
    · subst hix
      exact flow2_head hok hM hidx hall hedge fuel listed a w l i rA vs aV wV lA hsz hc hl hcA hla hlV hT hunA hdc hS hE hfA hi
    by_cases hiy : i = y
    · subst hiy
      exact flow2_head hok hM hidB halB hedB fuel listed a w l i rB vs aV wV lB hsz hc hlB hcB hla hlV hT hunB hdc hS hE hfB hi
    rw [mem_ready] at hi
    obtain ⟨hli, o, ho, hedges⟩ := hi
    have hio : i < ops.size := (Array.getElem?_eq_some_iff.1 ho).1
    have hil : i < listed.size := by omega
    have hli' : listed[i] = false := by simpa [hil] using hli
    have hnot : ¬ listed.getD i false = true := by simp [hil, hli']
    have hcnt : (listed.setIfInBounds i true).toList.count false ≤ fuel := by
      rw [Array.toList_setIfInBounds]
      have := List.count_set (l := listed.toList) (i := i) (a := true) (b := false) (by simpa using hil)
      rw [this]
      have hc' : listed.toList.count false ≤ fuel + 1 := hc
      have hpos : 0 < listed.toList.count false := List.count_pos_iff.2 (by rw [← hli']; simp)
      have e1 : (listed.toList[i]'(by simpa using hil) == false) = true := by simp [hli']
      rw [if_pos e1, if_neg (by decide)]
      omega
    have hset : ∀ j, ((listed.getD j false = true) ∨ j = i) ↔ ((listed.setIfInBounds i true).getD j false = true) := by
      intro j
      by_cases hj : i = j
      · subst hj; simp [hil]
      · rw [getD_set_ne false hj]
        exact ⟨fun h => h.resolve_right fun e => hj e.symm, .inl⟩
    have hdc' : ∀ (k : Nat) (p : Oper), ops[k]? = some p → (listed.setIfInBounds i true).getD k false = true → ∀ e ∈ p.after, Region.binds .any e = true → (listed.setIfInBounds i true).getD e.on false = true := by
      intro k p hp hk e he hb
      rw [← hset] at hk ⊢
      rcases hk with hk | rfl
      · exact .inl (hdc k p hp hk e he hb)
      · rw [ho] at hp; cases hp
        exact .inl (hedges e he hb)
    have hmem : i ∈ l := by
      rcases hno i hio with h | h | h | h | h
      · exact h
      · exact absurd h hix
      · exact absurd h hiy
      · exact absurd (mask_done hok hM (D := fun j => listed.getD j false = true) hdc i o ho hedges x h) (hunA (x, true) (by simp))
      · exact absurd (mask_done hok hM (D := fun j => listed.getD j false = true) hdc i o ho hedges y h) (hunB (y, true) (by simp))
    have hndl : (l ++ ((x, true) :: rA).map (·.1)).Nodup := by rw [hl]; exact hidx
    have hndB : (l ++ ((y, true) :: rB).map (·.1)).Nodup := by rw [hlB]; exact hidB
    obtain ⟨n, hn⟩ := List.getElem?_of_mem hmem
    have hnl : n < l.length := (List.getElem?_eq_some_iff.1 hn).1
    obtain ⟨b, hb, hr⟩ := hT n i o hn ho hnot
    have hidn : idx[n]? = some i := by rw [← hl, List.getElem?_append_left hnl]; exact hn
    have htake : idx.take n = l.take n := by rw [← hl, List.take_append_of_le_length (by omega)]
    have hag := laid_agree hok ho hla hb hedges (fun e he hbi => by have := hedge n i o hidn ho e he hbi; rw [htake] at this; exact this)
    have hw := wanted_agree (ops := ops) hag
    have hx := execOp_congr o (hok.sel i o ho) (eval_agree (ops := ops) hag)
    have hnext : ∀ w', S w' → Ext w w' → wpAny P .any ops Q fuel (listed.setIfInBounds i true) (a.put o.dst (vs i)) w' := by
      intro w' hS' hE'
      refine ih _ _ _ (by simpa using hsz) hcnt (laid_iff (laid_put hok ho hla hnot) hset) ?_ ?_ ?_ hdc' hS' (hE.trans hE')
      · intro n' j p hn' hp hDj
        exact hT n' j p hn' hp fun h => hDj ((hset j).1 (.inl h))
      · intro z hz hD
        rw [← hset] at hD
        rcases hD with hD | hD
        · exact hunA z hz hD
        · rw [List.nodup_append] at hndl
          exact hndl.2.2 i hmem z.1 (List.mem_map_of_mem hz) hD.symm
      · intro z hz hD
        rw [← hset] at hD
        rcases hD with hD | hD
        · exact hunB z hz hD
        · rw [List.nodup_append] at hndB
          exact hndB.2.2 i hmem z.1 (List.mem_map_of_mem hz) hD.symm
    unfold wpOp
    simp only [ho]
    rw [hw]
    rcases hr with ⟨hw1, hg⟩ | ⟨hw1, hv⟩
    · rw [if_pos hw1]
      refine .inl ?_
      have hg' := hg w hS
      unfold Oper.wp
      rw [hx]
      generalize (execOp b.eval o).run P w = r at *
      cases r with
      | ok nx w' =>
        cases nx <;> simp only [givesR, Oper.upon] at hg' ⊢
        case value u => obtain ⟨rfl, h2, h3⟩ := hg'; exact hnext _ h2 h3
        case skip => obtain ⟨h1, h2, h3⟩ := hg'; rw [h1]; exact hnext _ h2 h3
        case enter f args =>
          refine Calls.mono hg' fun e w'' ⟨he, h2, h3⟩ => ?_
          subst he
          exact hnext _ h2 h3
      | halt x w' => cases x <;> simp only [givesR] at hg'
    · rw [if_neg (by simp [hw1]), ← hv]
      exact hnext w hS (Ext.refl w)

theorem fst_false (p : List Nat) : (p.map (fun k => (k, false))).map (·.1) = p := by
  induction p with
  | nil => rfl
  | cons k p ih => rw [List.map_cons, List.map_cons, ih]
def altOk (ops : Array Oper) (p : List Nat) (x y : Nat) (rA rB : List (Nat × Bool)) : Bool :=
  let M := masks ops.toList []
  (ops.toList.map (maskOf M) == M) && (chainOk M rA none && (chainOk M rB none && (edgesIn ops (p.map (fun k => (k, false)) ++ (x, true) :: rA) [] && (edgesIn ops (p.map (fun k => (k, false)) ++ (y, true) :: rB) [] &&
    ((List.range ops.size).all (fun i => (p ++ ((x, true) :: rA).map (·.1)).contains i) && ((List.range ops.size).all (fun i => (p ++ ((y, true) :: rB).map (·.1)).contains i) &&
    (List.range ops.size).all (fun k => p.contains k || (k == x || (k == y || ((M.getD k 0).testBit x || (M.getD k 0).testBit y))))))))))
/-- THE LAW, two ways. 'p': what is known ahead of both. -/
theorem wp_region_alt {id : Nat} {w : World} (p : List Nat) (x y : Nat) (rA rB : List (Nat × Bool)) (S : World → Prop) (hm : P.follows .mixedOrders = true) (hok : flowOk ops = true) (hord : altOk ops p x y rA rB = true) (hS : S w.drew)
    (h : flow2 P ops S (fun a _ => flow2 P ops S (fun a w => Q .normal a w) ((x, true) :: rA) a w.drew ∧ flow2 P ops S (fun a w => Q .normal a w) ((y, true) :: rB) a w.drew) (p.map (fun k => (k, false))) a0 w.drew) : (Code.region id ops true).wp P Q a0 w := by
  have hok := FlowOk.of hok
  simp only [altOk, Bool.and_eq_true, beq_iff_eq, List.all_eq_true] at hord
  obtain ⟨hM, hcA, hcB, hedA, hedB, hallA, hallB, hno⟩ := hord
  obtain ⟨k1, _, k3⟩ := edgesIn_spec _ [] hedA
  obtain ⟨k1B, _, k3B⟩ := edgesIn_spec _ [] hedB
  have hl0 : laid ops (fun _ => undef) a0 (· ∈ ([] : List Nat)) a0 := ⟨rfl, rfl, fun _ _ _ _ _ h _ => absurd h List.not_mem_nil, fun _ _ => rfl⟩
  have hbase : ∀ j, ¬ (Array.replicate ops.size false).getD j false = true := by
    intro j hj
    by_cases h : j < ops.size <;> simp [h] at hj
  have hpm : ∀ r : List (Nat × Bool), (p.map (fun k => (k, false)) ++ r).map (·.1) = p ++ r.map (·.1) := fun r => by rw [List.map_append, fst_false]
  have hnp : ((p.map (fun k => (k, false))).map (·.1)).Nodup := by
    rw [List.map_append] at k1
    exact (List.nodup_append.1 k1).1
  obtain ⟨g, r, us, aV, h1, h2, h3, h4, h5, h6, h7⟩ := absorb (D := fun j => (Array.replicate ops.size false).getD j false = true) hok _ [] (fun _ => undef) a0 w.drew h hl0 (fun _ _ _ h => by simp at h) (by simp) hnp (fun x _ => hbase x.1)
  have hr : r = [] := by
    cases r with
    | nil => rfl
    | cons z r' =>
      have hz := h3 z r' rfl
      have hm : z ∈ p.map (fun k => (k, false)) := by rw [h1]; simp
      obtain ⟨k, _, rfl⟩ := List.mem_map.1 hm
      cases hz
  subst hr
  obtain ⟨hA, hB⟩ := h7 w.drew (Ext.refl _) hS
  have hg : g.map (·.1) = p := by
    have := congrArg (List.map (·.1)) h1
    rw [fst_false, List.append_nil] at this
    exact this.symm
  rw [List.nil_append, hg] at h5 h6
  rw [hpm] at k1 k3 k1B k3B
  refine wp_region_any hm ?_
  refine flow2_alt (S := S) hok hM k1 k1B (fun i hi => by have := hallA i (by simpa using hi); simpa using this) (fun i hi => by have := hallB i (by simpa using hi); simpa using this)
    (fun n i o hn ho e he hb => (k3 n i o hn ho e he hb).resolve_left (by simp)) (fun n i o hn ho e he hb => (k3B n i o hn ho e he hb).resolve_left (by simp))
    p x y rA rB us aV w.drew none none rfl rfl hcA hcB h5 (fun k hk => by
      have := hno k (by simpa using hk)
      simpa using this) hA hB ops.size _ a0 w.drew (by simp) (by simp) ?_ h6 (fun z _ => hbase z.1) (fun z _ => hbase z.1) (fun i o _ hj => absurd hj (hbase i)) hS (Ext.refl _)
  exact laid_congr (laid_iff hl0 fun j => ⟨fun h => absurd h List.not_mem_nil, fun h => absurd h (hbase j)⟩) fun j hj => absurd hj (hbase j)
theorem wp_region_alt_lit {id : Nat} {l : List Oper} {w : World} (p : List Nat) (x y : Nat) (rA rB : List (Nat × Bool)) (S : World → Prop) (hm : P.follows .mixedOrders = true) (hok : flowOk l.toArray = true) (hord : altOk l.toArray p x y rA rB = true) (hS : S w.drew)
    (h : flow2 P l.toArray S (fun a _ => flow2 P l.toArray S (fun a w => Q .normal a w) ((x, true) :: rA) a w.drew ∧ flow2 P l.toArray S (fun a w => Q .normal a w) ((y, true) :: rB) a w.drew) (p.map (fun k => (k, false))) a0 w.drew) : (Code.region id l.toArray true).wp P Q a0 w :=
  wp_region_alt p x y rA rB S hm hok hord hS h
end
end Go.Proofs.YtokhnbdhcehonaaGreat.A2
