/- index: the walk of IndexApplies. -/
import Derived.Test.YtokhnbdhcehonaaGreatIck
import Derived.Test.YtokhnbdhcehonaaGreatSame
import Derived.Test.YtokhnbdhcehonaaGreatFlow2
import Derived.Test.YtokhnbdhcehonaaGreatLg
import Derived.Test.YtokhnbdhcehonaaGreatOpen18
set_option linter.unusedSimpArgs false
set_option linter.unusedVariables false
namespace Go.Proofs.YtokhnbdhcehonaaGreat.A2
open Go Go.RowKit
section
variable {P : Program} {ops : Array Oper} {S : World → Prop} {Q : Exit → Act → World → Prop} {a0 : Act}
/-- one step: the first of those that are left -/
theorem flow2_head (hok : FlowOk ops) {M : List Nat} (hM : ops.toList.map (maskOf M) = M) {idx : List Nat} (hidx : idx.Nodup)
    (hall : ∀ i, i < ops.size → i ∈ idx)
    (hedge : ∀ (n : Nat) (i : Nat) (o : Oper), idx[n]? = some i → ops[i]? = some o → ∀ e ∈ o.after, Region.binds .any e = true → e.on ∈ idx.take n)
    (fuel : Nat) (listed : Array Bool) (a : Act) (w : World) (l : List Nat) (i : Nat) (rest : List (Nat × Bool)) (vs : Nat → Value) (aV : Act) (wV : World) (lst : Option Nat)
    (hsz : listed.size = ops.size) (hc : listed.toList.count false ≤ fuel + 1) (hl : l ++ ((i, true) :: rest).map (·.1) = idx) (hch1 : chainOk M rest lst = true)
    (hla : laid ops vs a0 (fun j => listed.getD j false = true) a) (hlV : laid ops vs a0 (· ∈ l) aV) (hT : ToldB P ops S a0 vs (fun j => listed.getD j false = true) l)
    (hun : ∀ x ∈ (i, true) :: rest, ¬ listed.getD x.1 false = true) (hdc : ∀ (i : Nat) (o : Oper), ops[i]? = some o → listed.getD i false = true → ∀ e ∈ o.after, Region.binds .any e = true → listed.getD e.on false = true)
    (hS : S w) (hE : Ext wV w) (hf : flow2 P ops S (fun a w => Q .normal a w) ((i, true) :: rest) aV wV) (hi : i ∈ Region.ready .any ops listed) :
    wpOp P ops Q i (fun a' w' => wpAny P .any ops Q fuel (listed.setIfInBounds i true) a' w') a w := by
  have ih := flow2_any (P := P) (S := S) (Q := Q) (a0 := a0) hok hM hidx hall hedge fuel
  rw [mem_ready] at hi
  obtain ⟨hli, o, ho, hedges⟩ := hi
  have hio : i < ops.size := (Array.getElem?_eq_some_iff.1 ho).1
  have hil : i < listed.size := by omega
  have hli' : listed[i] = false := by simpa [hil] using hli
  have hnot : ¬ listed.getD i false = true := by simp [hil, hli']
  have hcnt : (listed.setIfInBounds i true).toList.count false ≤ fuel := by
    rw [Array.toList_setIfInBounds]
    have := List.count_set (l := listed.toList) (i := i) (a := true) (b := false) (by simpa using hil)
    rw [this]
    have hc' : listed.toList.count false ≤ fuel + 1 := hc
    have hpos : 0 < listed.toList.count false := List.count_pos_iff.2 (by rw [← hli']; simp)
    have e1 : (listed.toList[i]'(by simpa using hil) == false) = true := by simp [hli']
    rw [if_pos e1, if_neg (by decide)]
    omega
  have hset : ∀ j, ((listed.getD j false = true) ∨ j = i) ↔ ((listed.setIfInBounds i true).getD j false = true) := by
    intro j
    by_cases hj : i = j
    · subst hj; simp [hil]
    · rw [getD_set_ne false hj]
      exact ⟨fun h => h.resolve_right fun e => hj e.symm, .inl⟩
  have hdc' : ∀ (k : Nat) (p : Oper), ops[k]? = some p → (listed.setIfInBounds i true).getD k false = true → ∀ e ∈ p.after, Region.binds .any e = true → (listed.setIfInBounds i true).getD e.on false = true := by
    intro k p hp hk e he hb
    rw [← hset] at hk ⊢
    rcases hk with hk | rfl
    · exact .inl (hdc k p hp hk e he hb)
    · rw [ho] at hp; cases hp
      exact .inl (hedges e he hb)
  have hndl : (l ++ ((i, true) :: rest).map (·.1)).Nodup := by rw [hl]; exact hidx
  simp only [List.map_cons] at hndl hl
  have hil2 : i ∉ l := by
    rw [List.nodup_append] at hndl
    exact fun hm => hndl.2.2 i hm i (by simp) rfl
  obtain ⟨o', ho', hf⟩ := hf
  rw [ho] at ho'
  cases ho'
  have hidn : idx[l.length]? = some i := by rw [← hl]; simp
  have htake : idx.take l.length = l := by rw [← hl]; simp
  have hag := laid_agree hok ho hla hlV hedges (fun e he hbi => by have := hedge l.length i o hidn ho e he hbi; rw [htake] at this; exact this)
  have hw := wanted_agree (ops := ops) hag
  have hx := execOp_congr o (hok.sel i o ho) (eval_agree (ops := ops) hag)
  -- behind the operation: take up what comes till the next one that turns the world
  have hnext : ∀ (u : Value) (w3 : World), S w3 → (∃ wV', Ext wV' w3 ∧ flow2 P ops S (fun a w => Q .normal a w) rest (aV.put o.dst u) wV') → wpAny P .any ops Q fuel (listed.setIfInBounds i true) (a.put o.dst u) w3 := by
    intro u w3 hS3 ⟨wV', hE3, hrest⟩
    let us : Nat → Value := fun j => if j = i then u else vs j
    have hus : ∀ j, j ≠ i → us j = vs j := fun j hj => if_neg hj
    have husi : us i = u := if_pos rfl
    have hV1 : laid ops us a0 (· ∈ l) aV := laid_congr hlV fun j hj => hus j fun e => hil2 (e ▸ hj)
    have hV2 := laid_put hok ho hV1 hil2
    rw [husi] at hV2
    have hV3 : laid ops us a0 (· ∈ l ++ [i]) (aV.put o.dst u) := laid_iff hV2 fun j => by simp
    have ha1 : laid ops us a0 (fun j => listed.getD j false = true) a := laid_congr hla fun j hj => hus j fun e => hnot (e ▸ hj)
    have ha2 := laid_put hok ho ha1 hnot
    rw [husi] at ha2
    have ha3 := laid_iff ha2 hset
    have hT3 : ToldB P ops S a0 us (fun j => (listed.setIfInBounds i true).getD j false = true) (l ++ [i]) := by
      intro n j p hn hp hDj
      by_cases hnl : n < l.length
      · rw [List.getElem?_append_left hnl] at hn
        have hjl : j ∈ l := List.mem_of_getElem? hn
        obtain ⟨c, hc, hr⟩ := hT n j p hn hp fun h => hDj ((hset j).1 (.inl h))
        refine ⟨c, ?_, ?_⟩
        · rw [List.take_append_of_le_length (by omega)]
          exact laid_congr hc fun m hm => hus m fun e => hil2 (e ▸ List.mem_of_mem_take hm)
        · rw [hus j fun e => hil2 (e ▸ hjl)]; exact hr
      · exfalso
        have hn0 : n = l.length := by
          have := (List.getElem?_eq_some_iff.1 hn).1
          simp at this; omega
        subst hn0
        simp at hn
        exact hDj ((hset j).1 (.inr hn.symm))
    rw [List.nodup_append] at hndl
    obtain ⟨hn1, hn2, hn3⟩ := hndl
    simp only [List.nodup_cons] at hn2
    obtain ⟨g, r, us2, aV', h1, h2, h3, h4, h5, h6, h7⟩ := absorb hok rest (l ++ [i]) us (aV.put o.dst u) wV' hrest hV3 hT3
      (fun x hx hm => by
        rw [List.mem_append, List.mem_singleton] at hm
        rcases hm with hm | hm
        · exact hn3 x.1 hm x.1 (by simp only [List.mem_cons]; exact .inr (List.mem_map_of_mem hx)) rfl
        · exact hn2.1 (by rw [← hm]; exact List.mem_map_of_mem hx)) hn2.2
      (fun x hx hD => by
        rw [← hset] at hD
        rcases hD with hD | hD
        · exact hun x (by simp [hx]) hD
        · exact hn2.1 (by rw [← hD]; exact List.mem_map_of_mem hx))
    have hdl : ∀ j, (listed.setIfInBounds i true).getD j false = true → j ∈ l ++ [i] := by
      intro j hj
      have hjs : j < ops.size := by
        rcases Nat.lt_or_ge j ops.size with h | h
        · exact h
        · have : ¬ j < (listed.setIfInBounds i true).size := by simp; omega
          simp [Array.getElem?_eq_none (Nat.le_of_not_lt this)] at hj
      have := hall j hjs
      rw [← hl] at this
      rw [List.mem_append] at this ⊢
      rcases this with h | h
      · exact .inl h
      · rcases List.mem_cons.1 h with h | h
        · exact .inr (by simp [h])
        · exfalso
          obtain ⟨y, hy, rfl⟩ := List.mem_map.1 h
          rw [← hset] at hj
          rcases hj with hj | hj
          · exact hun y (by simp [hy]) hj
          · exact hn2.1 (by rw [← hj]; exact List.mem_map_of_mem hy)
    obtain ⟨last', hlast'⟩ := chain_drop g r lst (by rw [← h1]; exact hch1)
    refine ih _ _ _ (l ++ [i] ++ g.map (·.1)) r us2 aV' wV' last' (by simpa using hsz) hcnt ?_ hlast' h3 (laid_congr ha3 fun j hj => h4 j (hdl j hj)) h5 h6 ?_ hdc' hS3 hE3 h7
    · rw [← hl, h1]; simp
    · intro x hx hD
      have := hdl x.1 hD
      rw [List.mem_append, List.mem_singleton] at this
      have hxr : x ∈ rest := by rw [h1]; simp [hx]
      rcases this with h | h
      · exact hn3 x.1 h x.1 (by simp only [List.mem_cons]; exact .inr (List.mem_map_of_mem hxr)) rfl
      · exact hn2.1 (by rw [← h]; exact List.mem_map_of_mem hxr)
  unfold wpOp
  simp only [ho]
  rw [hw]
  rcases hf with ⟨hw1, hrest⟩ | ⟨_, hb, _⟩ | ⟨hw1, _, hf⟩
  · rw [if_neg (by simp [hw1])]
    exact hnext undef w hS ⟨wV, hE, hrest⟩
  · cases hb
  · rw [if_pos hw1]
    refine .inl ?_
    have hg' := hf w hE hS
    unfold Oper.wp
    rw [hx]
    generalize (execOp aV.eval o).run P w = r at *
    cases r with
    | ok nx w' =>
      cases nx <;> simp only [effR, Oper.upon] at hg' ⊢
      case value u => exact hnext _ _ hg'.1 ⟨w', Ext.refl _, hg'.2⟩
      case skip => exact hnext _ _ hg'.1 ⟨w', Ext.refl _, hg'.2⟩
      case enter f args =>
        refine Calls.mono hg' fun e w'' he => ?_
        cases e with
        | returned v => exact hnext _ _ he.1 ⟨w'', Ext.refl _, he.2⟩
        | panicked c => exact he.elim
        | outgrown => exact he.elim
    | halt x w' => cases x <;> simp only [effR] at hg'


/-- either of two comes first -/
theorem flow2_alt (hok : FlowOk ops) {M : List Nat} (hM : ops.toList.map (maskOf M) = M) {idx idB : List Nat} (hidx : idx.Nodup) (hidB : idB.Nodup)
    (hall : ∀ i, i < ops.size → i ∈ idx) (halB : ∀ i, i < ops.size → i ∈ idB)
    (hedge : ∀ (n : Nat) (i : Nat) (o : Oper), idx[n]? = some i → ops[i]? = some o → ∀ e ∈ o.after, Region.binds .any e = true → e.on ∈ idx.take n)
    (hedB : ∀ (n : Nat) (i : Nat) (o : Oper), idB[n]? = some i → ops[i]? = some o → ∀ e ∈ o.after, Region.binds .any e = true → e.on ∈ idB.take n)
    (l : List Nat) (x y : Nat) (rA rB : List (Nat × Bool)) (vs : Nat → Value) (aV : Act) (wV : World) (lA lB : Option Nat)
    (hl : l ++ ((x, true) :: rA).map (·.1) = idx) (hlB : l ++ ((y, true) :: rB).map (·.1) = idB) (hcA : chainOk M rA lA = true) (hcB : chainOk M rB lB = true)
    (hlV : laid ops vs a0 (· ∈ l) aV) (hno : ∀ k, k < ops.size → k ∈ l ∨ k = x ∨ k = y ∨ (M.getD k 0).testBit x = true ∨ (M.getD k 0).testBit y = true)
    (hfA : flow2 P ops S (fun a w => Q .normal a w) ((x, true) :: rA) aV wV) (hfB : flow2 P ops S (fun a w => Q .normal a w) ((y, true) :: rB) aV wV) :
    ∀ (fuel : Nat) (listed : Array Bool) (a : Act) (w : World),
      listed.size = ops.size → listed.toList.count false ≤ fuel →
      laid ops vs a0 (fun j => listed.getD j false = true) a → ToldB P ops S a0 vs (fun j => listed.getD j false = true) l →
      (∀ z ∈ (x, true) :: rA, ¬ listed.getD z.1 false = true) → (∀ z ∈ (y, true) :: rB, ¬ listed.getD z.1 false = true) → (∀ (i : Nat) (o : Oper), ops[i]? = some o → listed.getD i false = true → ∀ e ∈ o.after, Region.binds .any e = true → listed.getD e.on false = true) →
      S w → Ext wV w → wpAny P .any ops Q fuel listed a w := by
  have hready : ∀ (listed : Array Bool), listed.size = ops.size → Region.ready .any ops listed = [] → ∀ i, i < ops.size → listed.getD i false = true := by
    intro listed hsz hr i
    induction i using Nat.strongRecOn with
    | ind i ih =>
      intro hi
      by_cases hli : listed.getD i false = true
      · exact hli
      · exfalso
        have : i ∈ Region.ready .any ops listed := by
          rw [mem_ready]
          refine ⟨?_, ops[i], Array.getElem?_eq_getElem hi, fun e he hb => ih e.on (hok.edge i _ (Array.getElem?_eq_getElem hi) e he hb) (by have := hok.edge i _ (Array.getElem?_eq_getElem hi) e he hb; omega)⟩
          have hlt : i < listed.size := by omega
          simp [hlt] at hli ⊢
          exact hli
        rw [hr] at this
        cases this
  have hxs : x < ops.size := by
    obtain ⟨o, ho, _⟩ := hfA
    exact (Array.getElem?_eq_some_iff.1 ho).1
  intro fuel
  induction fuel with
  | zero =>
    intro listed a w hsz hc hla hT hunA hunB hdc hS hE
    exfalso
    have hlt : x < listed.size := by omega
    have h0 : listed.toList.count false = 0 := by omega
    rw [List.count_eq_zero] at h0
    have h1 : listed[x] ≠ false := fun e => h0 (by rw [← e]; simp)
    exact hunA (x, true) (by simp) (by simpa [hlt] using h1)
  | succ fuel ih =>
    intro listed a w hsz hc hla hT hunA hunB hdc hS hE
    refine ⟨fun hr => absurd (hready listed hsz hr x hxs) (hunA (x, true) (by simp)), fun i hi => ?_⟩
    by_cases hix : i = x
    · subst hix
      exact flow2_head hok hM hidx hall hedge fuel listed a w l i rA vs aV wV lA hsz hc hl hcA hla hlV hT hunA hdc hS hE hfA hi
    by_cases hiy : i = y
    · subst hiy
      exact flow2_head hok hM hidB halB hedB fuel listed a w l i rB vs aV wV lB hsz hc hlB hcB hla hlV hT hunB hdc hS hE hfB hi
    rw [mem_ready] at hi
    obtain ⟨hli, o, ho, hedges⟩ := hi
    have hio : i < ops.size := (Array.getElem?_eq_some_iff.1 ho).1
    have hil : i < listed.size := by omega
    have hli' : listed[i] = false := by simpa [hil] using hli
    have hnot : ¬ listed.getD i false = true := by simp [hil, hli']
    have hcnt : (listed.setIfInBounds i true).toList.count false ≤ fuel := by
      rw [Array.toList_setIfInBounds]
      have := List.count_set (l := listed.toList) (i := i) (a := true) (b := false) (by simpa using hil)
      rw [this]
      have hc' : listed.toList.count false ≤ fuel + 1 := hc
      have hpos : 0 < listed.toList.count false := List.count_pos_iff.2 (by rw [← hli']; simp)
      have e1 : (listed.toList[i]'(by simpa using hil) == false) = true := by simp [hli']
      rw [if_pos e1, if_neg (by decide)]
      omega
    have hset : ∀ j, ((listed.getD j false = true) ∨ j = i) ↔ ((listed.setIfInBounds i true).getD j false = true) := by
      intro j
      by_cases hj : i = j
      · subst hj; simp [hil]
      · rw [getD_set_ne false hj]
        exact ⟨fun h => h.resolve_right fun e => hj e.symm, .inl⟩
    have hdc' : ∀ (k : Nat) (p : Oper), ops[k]? = some p → (listed.setIfInBounds i true).getD k false = true → ∀ e ∈ p.after, Region.binds .any e = true → (listed.setIfInBounds i true).getD e.on false = true := by
      intro k p hp hk e he hb
      rw [← hset] at hk ⊢
      rcases hk with hk | rfl
      · exact .inl (hdc k p hp hk e he hb)
      · rw [ho] at hp; cases hp
        exact .inl (hedges e he hb)
    have hmem : i ∈ l := by
      rcases hno i hio with h | h | h | h | h
      · exact h
      · exact absurd h hix
      · exact absurd h hiy
      · exact absurd (mask_done hok hM (D := fun j => listed.getD j false = true) hdc i o ho hedges x h) (hunA (x, true) (by simp))
      · exact absurd (mask_done hok hM (D := fun j => listed.getD j false = true) hdc i o ho hedges y h) (hunB (y, true) (by simp))
    have hndl : (l ++ ((x, true) :: rA).map (·.1)).Nodup := by rw [hl]; exact hidx
    have hndB : (l ++ ((y, true) :: rB).map (·.1)).Nodup := by rw [hlB]; exact hidB
    obtain ⟨n, hn⟩ := List.getElem?_of_mem hmem
    have hnl : n < l.length := (List.getElem?_eq_some_iff.1 hn).1
    obtain ⟨b, hb, hr⟩ := hT n i o hn ho hnot
    have hidn : idx[n]? = some i := by rw [← hl, List.getElem?_append_left hnl]; exact hn
    have htake : idx.take n = l.take n := by rw [← hl, List.take_append_of_le_length (by omega)]
    have hag := laid_agree hok ho hla hb hedges (fun e he hbi => by have := hedge n i o hidn ho e he hbi; rw [htake] at this; exact this)
    have hw := wanted_agree (ops := ops) hag
    have hx := execOp_congr o (hok.sel i o ho) (eval_agree (ops := ops) hag)
    have hnext : ∀ w', S w' → Ext w w' → wpAny P .any ops Q fuel (listed.setIfInBounds i true) (a.put o.dst (vs i)) w' := by
      intro w' hS' hE'
      refine ih _ _ _ (by simpa using hsz) hcnt (laid_iff (laid_put hok ho hla hnot) hset) ?_ ?_ ?_ hdc' hS' (hE.trans hE')
      · intro n' j p hn' hp hDj
        exact hT n' j p hn' hp fun h => hDj ((hset j).1 (.inl h))
      · intro z hz hD
        rw [← hset] at hD
        rcases hD with hD | hD
        · exact hunA z hz hD
        · rw [List.nodup_append] at hndl
          exact hndl.2.2 i hmem z.1 (List.mem_map_of_mem hz) hD.symm
      · intro z hz hD
        rw [← hset] at hD
        rcases hD with hD | hD
        · exact hunB z hz hD
        · rw [List.nodup_append] at hndB
          exact hndB.2.2 i hmem z.1 (List.mem_map_of_mem hz) hD.symm
    unfold wpOp
    simp only [ho]
    rw [hw]
    rcases hr with ⟨hw1, hg⟩ | ⟨hw1, hv⟩
    · rw [if_pos hw1]
      refine .inl ?_
      have hg' := hg w hS
      unfold Oper.wp
      rw [hx]
      generalize (execOp b.eval o).run P w = r at *
      cases r with
      | ok nx w' =>
        cases nx <;> simp only [givesR, Oper.upon] at hg' ⊢
        case value u => obtain ⟨rfl, h2, h3⟩ := hg'; exact hnext _ h2 h3
        case skip => obtain ⟨h1, h2, h3⟩ := hg'; rw [h1]; exact hnext _ h2 h3
        case enter f args =>
          refine Calls.mono hg' fun e w'' ⟨he, h2, h3⟩ => ?_
          subst he
          exact hnext _ h2 h3
      | halt x w' => cases x <;> simp only [givesR] at hg'
    · rw [if_neg (by simp [hw1]), ← hv]
      exact hnext w hS (Ext.refl w)

theorem fst_false (p : List Nat) : (p.map (fun k => (k, false))).map (·.1) = p := by
  induction p with
  | nil => rfl
  | cons k p ih => rw [List.map_cons, List.map_cons, ih]
def altOk (ops : Array Oper) (p : List Nat) (x y : Nat) (rA rB : List (Nat × Bool)) : Bool :=
  let M := masks ops.toList []
  (ops.toList.map (maskOf M) == M) && (chainOk M rA none && (chainOk M rB none && (edgesIn ops (p.map (fun k => (k, false)) ++ (x, true) :: rA) [] && (edgesIn ops (p.map (fun k => (k, false)) ++ (y, true) :: rB) [] &&
    ((List.range ops.size).all (fun i => (p ++ ((x, true) :: rA).map (·.1)).contains i) && ((List.range ops.size).all (fun i => (p ++ ((y, true) :: rB).map (·.1)).contains i) &&
    (List.range ops.size).all (fun k => p.contains k || (k == x || (k == y || ((M.getD k 0).testBit x || (M.getD k 0).testBit y))))))))))
/-- THE LAW, two ways. 'p': what is known ahead of both. -/
theorem wp_region_alt {id : Nat} {w : World} (p : List Nat) (x y : Nat) (rA rB : List (Nat × Bool)) (S : World → Prop) (hm : P.follows .mixedOrders = true) (hok : flowOk ops = true) (hord : altOk ops p x y rA rB = true) (hS : S w.drew)
    (h : flow2 P ops S (fun a _ => flow2 P ops S (fun a w => Q .normal a w) ((x, true) :: rA) a w.drew ∧ flow2 P ops S (fun a w => Q .normal a w) ((y, true) :: rB) a w.drew) (p.map (fun k => (k, false))) a0 w.drew) : (Code.region id ops true).wp P Q a0 w := by
  have hok := FlowOk.of hok
  simp only [altOk, Bool.and_eq_true, beq_iff_eq, List.all_eq_true] at hord
  obtain ⟨hM, hcA, hcB, hedA, hedB, hallA, hallB, hno⟩ := hord
  obtain ⟨k1, _, k3⟩ := edgesIn_spec _ [] hedA
  obtain ⟨k1B, _, k3B⟩ := edgesIn_spec _ [] hedB
  have hl0 : laid ops (fun _ => undef) a0 (· ∈ ([] : List Nat)) a0 := ⟨rfl, rfl, fun _ _ _ _ _ h _ => absurd h List.not_mem_nil, fun _ _ => rfl⟩
  have hbase : ∀ j, ¬ (Array.replicate ops.size false).getD j false = true := by
    intro j hj
    by_cases h : j < ops.size <;> simp [h] at hj
  have hpm : ∀ r : List (Nat × Bool), (p.map (fun k => (k, false)) ++ r).map (·.1) = p ++ r.map (·.1) := fun r => by rw [List.map_append, fst_false]
  have hnp : ((p.map (fun k => (k, false))).map (·.1)).Nodup := by
    rw [List.map_append] at k1
    exact (List.nodup_append.1 k1).1
  obtain ⟨g, r, us, aV, h1, h2, h3, h4, h5, h6, h7⟩ := absorb (D := fun j => (Array.replicate ops.size false).getD j false = true) hok _ [] (fun _ => undef) a0 w.drew h hl0 (fun _ _ _ h => by simp at h) (by simp) hnp (fun x _ => hbase x.1)
  have hr : r = [] := by
    cases r with
    | nil => rfl
    | cons z r' =>
      have hz := h3 z r' rfl
      have hm : z ∈ p.map (fun k => (k, false)) := by rw [h1]; simp
      obtain ⟨k, _, rfl⟩ := List.mem_map.1 hm
      cases hz
  subst hr
  obtain ⟨hA, hB⟩ := h7 w.drew (Ext.refl _) hS
  have hg : g.map (·.1) = p := by
    have := congrArg (List.map (·.1)) h1
    rw [fst_false, List.append_nil] at this
    exact this.symm
  rw [List.nil_append, hg] at h5 h6
  rw [hpm] at k1 k3 k1B k3B
  refine wp_region_any hm ?_
  refine flow2_alt (S := S) hok hM k1 k1B (fun i hi => by have := hallA i (by simpa using hi); simpa using this) (fun i hi => by have := hallB i (by simpa using hi); simpa using this)
    (fun n i o hn ho e he hb => (k3 n i o hn ho e he hb).resolve_left (by simp)) (fun n i o hn ho e he hb => (k3B n i o hn ho e he hb).resolve_left (by simp))
    p x y rA rB us aV w.drew none none rfl rfl hcA hcB h5 (fun k hk => by
      have := hno k (by simpa using hk)
      simpa using this) hA hB ops.size _ a0 w.drew (by simp) (by simp) ?_ h6 (fun z _ => hbase z.1) (fun z _ => hbase z.1) (fun i o _ hj => absurd hj (hbase i)) hS (Ext.refl _)
  exact laid_congr (laid_iff hl0 fun j => ⟨fun h => absurd h List.not_mem_nil, fun h => absurd h (hbase j)⟩) fun j hj => absurd hj (hbase j)
theorem wp_region_alt_lit {id : Nat} {l : List Oper} {w : World} (p : List Nat) (x y : Nat) (rA rB : List (Nat × Bool)) (S : World → Prop) (hm : P.follows .mixedOrders = true) (hok : flowOk l.toArray = true) (hord : altOk l.toArray p x y rA rB = true) (hS : S w.drew)
    (h : flow2 P l.toArray S (fun a _ => flow2 P l.toArray S (fun a w => Q .normal a w) ((x, true) :: rA) a w.drew ∧ flow2 P l.toArray S (fun a w => Q .normal a w) ((y, true) :: rB) a w.drew) (p.map (fun k => (k, false))) a0 w.drew) : (Code.region id l.toArray true).wp P Q a0 w :=
  wp_region_alt p x y rA rB S hm hok hord hS h
end
end Go.Proofs.YtokhnbdhcehonaaGreat.A2
namespace Go.Proofs.YtokhnbdhcehonaaGreat
open Go Go.RowKit Row
set_option maxRecDepth 100000
/-- a cache that changes have made is one that Check lets be -/
theorem nodup_of {α κ μ : Type} [DecidableEq κ] {k : α → κ} {lt : κ → κ → Bool} (hl : Lin lt) {l : List α} (hs : Srt k lt l) {f : α → μ} (h : ∀ x ∈ l, ∀ y ∈ l, f x = f y → k x = k y) : (l.map f).Nodup := by
  refine List.pairwise_iff_getElem.2 fun i j hi hj hij e => ?_
  rw [List.length_map] at hi hj
  simp only [List.getElem_map] at e
  have := hs.inj hl hi hj (h _ (List.getElem_mem hi) _ (List.getElem_mem hj) e)
  omega
theorem not_stray {c : Ca} {u : ByteArray} (h : ∃ f ∈ c.fs, f.up = u) : noF c u = false := by
  unfold noF
  rw [is_some h]; rfl
theorem Va.okc {c : Ca} (h : Va c) : Okc c := by
  refine ⟨h.ri, nodup_of lH_lin h.ri.hs h.hu, nodup_of lB_lin h.ri.bs h.sl, List.any_eq_false.2 fun y hy => by rw [not_stray (h.nd y hy)]; simp, List.any_eq_false.2 fun y hy => by rw [not_stray (h.bd y hy)]; simp, List.any_eq_false.2 fun y hy => ?_⟩
  have hg : good y := by
    simp only [chgC, List.mem_append, List.mem_map] at hy
    rcases hy with ((⟨x, hx, rfl⟩ | ⟨x, hx, rfl⟩) | ⟨x, hx, rfl⟩) | ⟨x, hx, rfl⟩
    · exact h.oh x hx
    · exact h.of x hx
    · exact h.on x hx
    · exact h.ob x hx
  rw [← chk_eq hg.2, hg.1]; simp
theorem Va.kh {c : Ca} (h : Va c) : ∀ x ∈ c.hs, UHd.kok x.up := fun x hx => by
  have h1 := (h.oh x hx).1
  simp [hdC, chkR, restR, hasS, hasB, codes, numB, txtB, txtP, numP] at h1
  have hm63 : maxLen = 9223372036854775807 := rfl
  have h2 := of_decide_eq_true h1.2.2.2
  unfold UHd.kok
  omega
theorem Va.kb {c : Ca} (h : Va c) : ∀ x ∈ c.bs, UBl.kok x.sl := fun x hx => by
  have h1 := (h.ob x hx).1
  simp [blC, chkR, restR, hasS, hasB, codes, numB, txtB, txtP, numP] at h1
  unfold UBl.kok
  simp only [Lit.wf, Bool.and_eq_true, decide_eq_true_eq]
  have h2 : 0 ≤ x.sl ∧ x.sl ≤ 65535 := ⟨of_decide_eq_true h1.2.2.1, of_decide_eq_true h1.2.2.2⟩
  exact ⟨Int.le_trans (by decide) h2.1, Int.le_trans h2.2 (by decide)⟩
theorem ckok_any {c : Ca} {cv : Cv} {w : World} (h : CaAt w cv c) (hf : Few c 100) (hv : Va c) : Calls Tryz.prog 29 #[.agg (arr cv)] w fun r w' => r = .returned (.int .i64 0) ∧ Below w.heap.size w w' :=
  (icheck_any h hf hv.kh hv.kb).mono fun r w' ⟨b, hr, hb, hw⟩ => by
    rw [hb.2 hv.okc] at hr
    exact ⟨hr, hw⟩
/-- the two caches in their boxes -/
structure Ap (w W : World) (cv mv : Cv) (d : Ca) : Prop where
  bl : Below w.heap.size w W
  b3 : W.heap[w.heap.size]? = some (.cells (arr cv) (RowT.T Cv))
  b4 : W.heap[w.heap.size + 1]? = some (.cells (arr mv) (RowT.T Cv))
  c : CaAt W cv d
  m : CaAt W mv d
theorem Ap.below {w W W' : World} {cv mv : Cv} {d : Ca} (h : Ap w W cv mv d) (hb : Below W.heap.size W W') : Ap w W' cv mv d :=
  ⟨h.bl.trans (hb.mono h.bl.size), (hb.block _ (heap_lt h.b3)).trans h.b3, (hb.block _ (heap_lt h.b4)).trans h.b4, h.c.below hb, h.m.below hb⟩
/-- a box with a cache, made behind a world -/
structure Fc (W0 W : World) (gb : Nat) (ev : Cv) (e : Ca) : Prop where
  bl : Below W0.heap.size W0 W
  ge : W0.heap.size ≤ gb
  eb : W.heap[gb]? = some (.cells (arr ev) (RowT.T Cv))
  ca : CaAt W ev e
theorem Fc.below {W0 W W' : World} {gb : Nat} {ev : Cv} {e : Ca} (h : Fc W0 W gb ev e) (hb : Below W.heap.size W W') : Fc W0 W' gb ev e :=
  ⟨h.bl.trans (hb.mono h.bl.size), h.ge, (hb.block _ (heap_lt h.eb)).trans h.eb, h.ca.below hb⟩
/-- all boxes behind the two calls -/
structure Az (w W : World) (cv mv : Cv) (d : Ca) (g6 g7 g9 : Nat) (xv yv : Cv) (e : Ca) : Prop where
  ap : Ap w W cv mv d
  b6 : W.heap[g6]? = some (.cells (arr cv) (RowT.T Cv))
  b7 : W.heap[g7]? = some (.cells (arr xv) (RowT.T Cv))
  b9 : W.heap[g9]? = some (.cells (arr yv) (RowT.T Cv))
  x : CaAt W xv e
  y : CaAt W yv e
  n7 : w.heap.size + 1 < g7
  n9 : w.heap.size + 1 < g9
theorem Az.below {w W W' : World} {cv mv : Cv} {d : Ca} {g6 g7 g9 : Nat} {xv yv : Cv} {e : Ca} (h : Az w W cv mv d g6 g7 g9 xv yv e) (hb : Below W.heap.size W W') : Az w W' cv mv d g6 g7 g9 xv yv e :=
  ⟨h.ap.below hb, (hb.block _ (heap_lt h.b6)).trans h.b6, (hb.block _ (heap_lt h.b7)).trans h.b7, (hb.block _ (heap_lt h.b9)).trans h.b9, h.x.below hb, h.y.below hb, h.n7, h.n9⟩
/-- while the two are laid back -/
structure Sa (w W : World) (g7 g9 : Nat) (xv yv : Cv) (e : Ca) : Prop where
  bl : Below w.heap.size w W
  c3 : ∃ C, C.size = n Cv ∧ W.heap[w.heap.size]? = some (.cells C (RowT.T Cv))
  c4 : ∃ C, C.size = n Cv ∧ W.heap[w.heap.size + 1]? = some (.cells C (RowT.T Cv))
  b7 : W.heap[g7]? = some (.cells (arr xv) (RowT.T Cv))
  b9 : W.heap[g9]? = some (.cells (arr yv) (RowT.T Cv))
  x : CaAt W xv e
  y : CaAt W yv e
  n7 : w.heap.size + 1 < g7
  n9 : w.heap.size + 1 < g9
section
variable {w W W' : World} {g7 g9 : Nat} {xv yv z : Cv} {e : Ca}
theorem Az.sa {cv mv : Cv} {d : Ca} {g6 : Nat} (h : Az w W cv mv d g6 g7 g9 xv yv e) : Sa w W g7 g9 xv yv e := ⟨h.ap.bl, ⟨_, arr_size _, h.ap.b3⟩, ⟨_, arr_size _, h.ap.b4⟩, h.b7, h.b9, h.x, h.y, h.n7, h.n9⟩
theorem Sa.below (h : Sa w W g7 g9 xv yv e) (hb : Below W.heap.size W W') : Sa w W' g7 g9 xv yv e := by
  obtain ⟨C, hC, hc⟩ := h.c3
  obtain ⟨D, hD, hd⟩ := h.c4
  exact ⟨h.bl.trans (hb.mono h.bl.size), ⟨C, hC, (hb.block _ (heap_lt hc)).trans hc⟩, ⟨D, hD, (hb.block _ (heap_lt hd)).trans hd⟩, (hb.block _ (heap_lt h.b7)).trans h.b7, (hb.block _ (heap_lt h.b9)).trans h.b9, h.x.below hb, h.y.below hb, h.n7, h.n9⟩
theorem Sa.st3 (h : Sa w W g7 g9 xv yv e) (hb : W'.heap[w.heap.size]? = some (.cells (arr z) (RowT.T Cv))) (hg : W.grownBy W' (some w.heap.size)) : Sa w W' g7 g9 xv yv e := by
  have h7 := h.n7
  have h9 := h.n9
  obtain ⟨C, hC, hc⟩ := h.c3
  obtain ⟨D, hD, hd⟩ := h.c4
  exact ⟨h.bl.grown hg h.bl.size (fun j hj => by cases hj; exact Nat.le_refl _), ⟨_, arr_size _, hb⟩, ⟨D, hD, (hg.block _ (heap_lt hd) (by simp)).trans hd⟩, (hg.block _ (heap_lt h.b7) (by simp; omega)).trans h.b7, (hg.block _ (heap_lt h.b9) (by simp; omega)).trans h.b9, h.x.grown hg hc, h.y.grown hg hc, h.n7, h.n9⟩
theorem Sa.st4 (h : Sa w W g7 g9 xv yv e) (hb : W'.heap[w.heap.size + 1]? = some (.cells (arr z) (RowT.T Cv))) (hg : W.grownBy W' (some (w.heap.size + 1))) : Sa w W' g7 g9 xv yv e := by
  have h7 := h.n7
  have h9 := h.n9
  obtain ⟨C, hC, hc⟩ := h.c3
  obtain ⟨D, hD, hd⟩ := h.c4
  exact ⟨h.bl.grown hg h.bl.size (fun j hj => by cases hj; exact Nat.le_succ _), ⟨C, hC, (hg.block _ (heap_lt hc) (by simp)).trans hc⟩, ⟨_, arr_size _, hb⟩, (hg.block _ (heap_lt h.b7) (by simp; omega)).trans h.b7, (hg.block _ (heap_lt h.b9) (by simp; omega)).trans h.b9, h.x.grown hg hd, h.y.grown hg hd, h.n7, h.n9⟩
end
theorem turn_alloc {α : Type} [Row α] [RowT α] {w : World} {o : Oper} {a : Act} {K : Value → World → Prop} (ho : o.op = .alloc (RowT.T α)) (hK : K (.pointer (some ⟨w.heap.size, 0, none⟩)) (w.alloc (.cells (arr (RowT.z : α)) (RowT.T α)))) : effR Tryz.prog K ((execOp a.eval o).run Tryz.prog w) := by
  unfold execOp
  simp only [ho, Sem.run_bind, Sem.run_pure, Result.andThen_ok, RowT.halloc]
  exact hK
theorem apR_eq3 (c : Ca) {x : Ch} (ho : x.ok) : apR c x = apC c x := by
  unfold apR apC
  rw [chk_eq ho]
  rfl
def MkV (w : World) (r : Ending) (w' : World) : Prop := r = .returned (.bool true) ∧ Below w.heap.size w w'
set_option maxHeartbeats 64000000 in
theorem applies_walk {l : List Ch} {v : Value} {w : World} (h : Ro w v l) (hok : ∀ x ∈ l, x.ok) : Calls Tryz.prog 7 #[v] w (MkV w) := by
  have HL := Lib.hid h
  have HOK := Lib.hid hok
  have HLL := Lib.hid (large_any h)
  obtain ⟨A, cap, hv, hlc, hcap⟩ := h.any
  subst hv
  clear h hok
  have hm63 : maxLen = 9223372036854775807 := rfl
  go_enter Tryz.func7, Tryz.ntmps7
  go_wp2_with fail
  refine HLL.out.mono ?_
  rintro r w1 ⟨b, rfl, hb40, hww⟩
  obtain rfl := hww
  have H40 := Lib.hid hb40
  clear hb40 HLL
  cases b with
  | true =>
    go_wp2_with fail
    refine (kn_any _).mono ?_
    rintro r w2 ⟨rfl, hb2⟩
    go_wp2_with fail
    go_ret
    exact ⟨rfl, hb2⟩
  | false =>
  have hl40 : l.length ≤ 40 := H40.out rfl
  go_wp2_with (refine rw_alloc (α := Cv) rfl rfl ?_)
  have HAP0 : Hid (Ap w1 ((w1.alloc (.cells (arr (RowT.z : Cv)) (RowT.T Cv))).alloc (.cells (arr (RowT.z : Cv)) (RowT.T Cv))) cv0 cv0 ca0) := Lib.hid ⟨by go_grown, heap_old_at (heap_alloc_new _ _), heap_new_at _ _ (alloc_size _ _), ca0_at _, ca0_at _⟩
  go_loopw [5] (fun i wq => ∃ k : Nat, k ≤ l.length ∧ i = .int .i64 k ∧ ∃ (cv mv : Cv), Ap w1 wq cv mv (madeC (l.take k))) (fun i _ => l.length - (intOf i).toNat)
  case atStart => exact ⟨0, by omega, rfl, cv0, cv0, HAP0.out⟩
  case round =>
    obtain ⟨k, hk, rfl, cv, mv, hap⟩ := hrel
    have HA := Lib.hid hap
    clear hap HAP0
    by_cases hlt : k < l.length
    · have hltI : (k : Int) < (l.length : Int) := by omega
      obtain ⟨b, off, cap', he, hbl, hrg⟩ := HL.out.at_ (by omega)
      cases he
      have HE : Hid (∀ wS, Below wr.heap.size wr wS → wS.rangeAt b (off + k * 18) (cells l[k])) := Lib.hid (fun wS hS => rangeAt_below (rangeAt_below (hrg k hlt) hbl HA.out.bl) (Nat.lt_of_lt_of_le hbl HA.out.bl.size) hS)
      clear hbl hrg
      have hmo := madeC_ok l k hk
      have HNX := Lib.hid (madeC_next (l := l) hlt)
      have HOX := HOK.out _ (List.getElem_mem hlt)
      have HVA := Lib.hid (made_va (l := l.take (k + 1)) (fun y hy => HOK.out y (List.mem_of_mem_take hy)))
      have hmo2 := madeC_ok l (k + 1) (by omega)
      have HFE := Lib.hid (hmo2.2.up (show k + 1 ≤ 100 by omega))
      have HFD := Lib.hid (hmo.2.up (show k ≤ 100 by omega))
      clear hmo2
      have HC1 : Hid (∀ W', Below wr.heap.size wr W' → Calls Tryz.prog 32 #[.agg (arr cv), .agg (arr l[k])] W' (GoV (apR (madeC (l.take k)) l[k]).1 (apR (madeC (l.take k)) l[k]).2 W')) := Lib.hid (fun W' hb => by
        rw [apR_eq3 _ HOX]
        exact apply_any (HA.out.c.below hb) (hmo.2.up (by omega)) hmo.1 l[k])
      have HC2 : Hid (∀ W', Below wr.heap.size wr W' → Calls Tryz.prog 33 #[.agg (arr mv), .agg (arr l[k])] W' (GoV (apR (madeC (l.take k)) l[k]).1 (apR (madeC (l.take k)) l[k]).2 W')) := Lib.hid (fun W' hb => rapply_any (HA.out.m.below hb) (hmo.2.up (by omega)) hmo.1 l[k])
      clear hmo HOX
      rw [HNX.out] at HVA HFE
      generalize hD : apR (madeC (l.take k)) l[k] = D at HC1 HC2 HVA HFE HNX
      generalize madeC (l.take k) = d at *
      generalize l[k] = x at *
      obtain ⟨e1, e2⟩ := D
      clear hD
      dsimp only at HVA HFE HNX
      have HG6 := Lib.hid (heap_alloc_new wr (.cells (arr cv) (RowT.T Cv)))
      have HBW8 : Hid (Below wr.heap.size wr (wr.alloc (.cells (arr cv) (RowT.T Cv)))) := Lib.hid bel_box
      go_wp2_with (first
        | (refine rw_put (α := Cv) _ 6 (.tmp 20) rfl rfl rfl rfl rfl rfl cv rfl rfl ?_)
        | (refine rw_load (α := Cv) rfl (.tmp 3) rfl w1.heap.size 0 rfl cv (range_row HA.out.b3) ?_))
      obtain ⟨W8, hW8⟩ : ∃ W8, W8 = wr.alloc (.cells (arr cv) (RowT.T Cv)) := ⟨_, rfl⟩
      obtain ⟨g6, hg6⟩ : ∃ g6, g6 = wr.heap.size := ⟨_, rfl⟩
      rw [← hW8] at HG6 HBW8 ⊢
      rw [← hg6] at HG6 ⊢
      clear hW8 hg6
      have HA8 := Lib.hid (HA.out.below HBW8.out)
      have HX8 : Hid (∀ wS, Below W8.heap.size W8 wS → wS.heap[w1.heap.size]? = some (.cells (arr cv) (RowT.T Cv))) := Lib.hid (fun wS hS => (HA8.out.below hS).b3)

      go_upto_region 8 with fail
      go_cut [7, 8] from 22 to 29 (fun s7 s8 wx => ∃ (g7 : Nat) (xv : Cv), s7 = .pointer (some ⟨g7, 0, none⟩) ∧ s8 = .bool e2 ∧ Fc W8 wx g7 xv e1)
      case first =>
        refine A2.wp_region_alt_lit [0, 1, 2, 3, 4] 5 9 [(6, false), (7, false), (8, false), (9, true), (10, true), (11, false)] [(5, true), (6, false), (7, false), (8, false), (10, true), (11, false)] (fun wS => Below W8.heap.size W8 wS) (by kernel_rfl) (by kernel_rfl) (by kernel_rfl) (Below.refl _ _).drew ?_
        simp only [List.map_cons, List.map_nil]
        (refine flow2_take (v := .agg (arr cv)) (o := _) rfl rfl (fun wS hS => gives_row rfl rfl (range_row (HX8.out wS hS)) ⟨hS, Ext.refl wS⟩) ?_; simp only [Act.put, List.setIfInBounds_toArray, List.set_cons_zero, List.set_cons_succ])
        repeat (first | (refine' flow2_pass (o := _) rfl _ _; (focus rfl); simp only [Act.put, List.setIfInBounds_toArray, List.set_cons_zero, List.set_cons_succ]) | (refine' flow2_take (v := _) (o := _) rfl _ _ _; rotate_left; (focus rfl); (focus (intro wS hS; have hE := Ext.refl wS; (skip); go_simp; try (with_reducible (first | exact ⟨rfl, hS, hE⟩ | rfl)); done)); simp only [Act.put, List.setIfInBounds_toArray, List.set_cons_zero, List.set_cons_succ]))
        (refine flow2_take (v := .agg (arr x)) (o := _) rfl rfl (fun wS hS => gives_row rfl rfl (HE.out wS (HBW8.out.trans (hS.mono HBW8.out.size))) ⟨hS, Ext.refl wS⟩) ?_; simp only [Act.put, List.setIfInBounds_toArray, List.set_cons_zero, List.set_cons_succ])
        refine flow2_nil ?_
        intro w0 hE0 hS0
        clear hE0 hS0 w0
        refine ⟨?_, ?_⟩
        · refine flow2_turn (o := _) rfl rfl ?_
          intro wT hE hS K hK
          go_simp
          refine ((fun W hS => HC1.out W (HBW8.out.trans (hS.mono HBW8.out.size))) wT hS).mono ?_
          rintro e w3 ⟨cv1, rfl, hca1, hb3⟩
          have HC3 := Lib.hid hca1
          have hS3 := hS.trans (hb3.mono hS.size)
          refine hK _ _ hS3 ?_
          clear hE hS hK K hb3 hca1 hS3
          simp only [Act.put, List.setIfInBounds_toArray, List.set_cons_zero, List.set_cons_succ]
          repeat (first | (refine' flow2_pass (o := _) rfl _ _; (focus rfl); simp only [Act.put, List.setIfInBounds_toArray, List.set_cons_zero, List.set_cons_succ]) | (refine' flow2_take (v := _) (o := _) rfl _ _ _; rotate_left; (focus rfl); (focus (intro wS hS; have hE := Ext.refl wS; (skip); go_simp; try (with_reducible (first | exact ⟨rfl, hS, hE⟩ | rfl)); done)); simp only [Act.put, List.setIfInBounds_toArray, List.set_cons_zero, List.set_cons_succ]))
          refine flow2_turn (o := _) rfl rfl ?_
          intro wU hE hS K hK
          refine turn_alloc (α := Cv) rfl ?_
          refine hK _ _ (hS.trans (bel_box.mono hS.size)) ?_
          have HC4 := Lib.hid ((HC3.out.below hE).below (bel_box (o := .cells (arr (RowT.z : Cv)) (RowT.T Cv))))
          have HG4 := Lib.hid (And.intro hS.size (heap_alloc_new wU (.cells (arr (RowT.z : Cv)) (RowT.T Cv))))
          obtain ⟨gb, hgb⟩ : ∃ gb, gb = wU.heap.size := ⟨_, rfl⟩
          rw [← hgb] at HG4 ⊢
          clear hE hS hK K hgb
          simp only [Act.put, List.setIfInBounds_toArray, List.set_cons_zero, List.set_cons_succ]
          refine flow2_turn (o := _) rfl rfl ?_
          intro wX hE hS K hK
          have hgx := (hE.block _ (heap_lt HG4.out.2)).trans HG4.out.2
          refine turn_store (α := Cv) (.tmp 7) (.tmp 28) rfl gb cv1 _ (arr_size _) rfl rfl hgx ?_
          intro w5 hb5 hg5 hs5
          have hS5 := hS.grown hg5 hS.size (fun j hj => by cases hj; exact HG4.out.1)
          have HF5 : Hid (Fc W8 w5 gb cv1 e1) := Lib.hid ⟨hS5, HG4.out.1, hb5, (HC4.out.below hE).grown hg5 hgx⟩
          refine hK _ _ hS5 ?_
          clear hE hS hK K hb5 hg5 hs5 hgx hS5
          simp only [Act.put, List.setIfInBounds_toArray, List.set_cons_zero, List.set_cons_succ]
          repeat (first | (refine' flow2_pass (o := _) rfl _ _; (focus rfl); simp only [Act.put, List.setIfInBounds_toArray, List.set_cons_zero, List.set_cons_succ]) | (refine' flow2_take (v := _) (o := _) rfl _ _ _; rotate_left; (focus rfl); (focus (intro wS hS; have hE := Ext.refl wS; (skip); go_simp; try (with_reducible (first | exact ⟨rfl, hS, hE⟩ | rfl)); done)); simp only [Act.put, List.setIfInBounds_toArray, List.set_cons_zero, List.set_cons_succ]))
          refine flow2_nil ?_
          intro w6 hE hS
          have HF6 := Lib.hid (HF5.out.below hE)
          clear hE hS
          go_wp2_with fail
          go_meet
          exact ⟨gb, cv1, rfl, rfl, HF6.out⟩
        · refine flow2_turn (o := _) rfl rfl ?_
          intro wU hE hS K hK
          refine turn_alloc (α := Cv) rfl ?_
          refine hK _ _ (hS.trans (bel_box.mono hS.size)) ?_
          have HG4 := Lib.hid (And.intro hS.size (heap_alloc_new wU (.cells (arr (RowT.z : Cv)) (RowT.T Cv))))
          obtain ⟨gb, hgb⟩ : ∃ gb, gb = wU.heap.size := ⟨_, rfl⟩
          rw [← hgb] at HG4 ⊢
          clear hE hS hK K hgb
          simp only [Act.put, List.setIfInBounds_toArray, List.set_cons_zero, List.set_cons_succ]
          refine flow2_turn (o := _) rfl rfl ?_
          intro wT hE hS K hK
          go_simp
          refine ((fun W hS => HC1.out W (HBW8.out.trans (hS.mono HBW8.out.size))) wT hS).mono ?_
          rintro e w3 ⟨cv1, rfl, hca1, hb3⟩
          have HG3 := Lib.hid ((hb3.block _ (heap_lt ((hE.block _ (heap_lt HG4.out.2)).trans HG4.out.2))).trans ((hE.block _ (heap_lt HG4.out.2)).trans HG4.out.2))
          have HC3 := Lib.hid hca1
          have hS3 := hS.trans (hb3.mono hS.size)
          refine hK _ _ hS3 ?_
          clear hE hS hK K hb3 hca1 hS3
          simp only [Act.put, List.setIfInBounds_toArray, List.set_cons_zero, List.set_cons_succ]
          repeat (first | (refine' flow2_pass (o := _) rfl _ _; (focus rfl); simp only [Act.put, List.setIfInBounds_toArray, List.set_cons_zero, List.set_cons_succ]) | (refine' flow2_take (v := _) (o := _) rfl _ _ _; rotate_left; (focus rfl); (focus (intro wS hS; have hE := Ext.refl wS; (skip); go_simp; try (with_reducible (first | exact ⟨rfl, hS, hE⟩ | rfl)); done)); simp only [Act.put, List.setIfInBounds_toArray, List.set_cons_zero, List.set_cons_succ]))
          refine flow2_turn (o := _) rfl rfl ?_
          intro wX hE hS K hK
          have hgx := (hE.block _ (heap_lt HG3.out)).trans HG3.out
          refine turn_store (α := Cv) (.tmp 7) (.tmp 28) rfl gb cv1 _ (arr_size _) rfl rfl hgx ?_
          intro w5 hb5 hg5 hs5
          have hS5 := hS.grown hg5 hS.size (fun j hj => by cases hj; exact HG4.out.1)
          have HF5 : Hid (Fc W8 w5 gb cv1 e1) := Lib.hid ⟨hS5, HG4.out.1, hb5, (HC3.out.below hE).grown hg5 hgx⟩
          refine hK _ _ hS5 ?_
          clear hE hS hK K hb5 hg5 hs5 hgx hS5
          simp only [Act.put, List.setIfInBounds_toArray, List.set_cons_zero, List.set_cons_succ]
          repeat (first | (refine' flow2_pass (o := _) rfl _ _; (focus rfl); simp only [Act.put, List.setIfInBounds_toArray, List.set_cons_zero, List.set_cons_succ]) | (refine' flow2_take (v := _) (o := _) rfl _ _ _; rotate_left; (focus rfl); (focus (intro wS hS; have hE := Ext.refl wS; (skip); go_simp; try (with_reducible (first | exact ⟨rfl, hS, hE⟩ | rfl)); done)); simp only [Act.put, List.setIfInBounds_toArray, List.set_cons_zero, List.set_cons_succ]))
          refine flow2_nil ?_
          intro w6 hE hS
          have HF6 := Lib.hid (HF5.out.below hE)
          clear hE hS
          go_wp2_with fail
          go_meet
          exact ⟨gb, cv1, rfl, rfl, HF6.out⟩
      case rest =>

      obtain ⟨g7, xv, rfl, rfl, hf8⟩ := hcut
      have HF8 := Lib.hid hf8
      clear hf8
      obtain ⟨W9, hW9⟩ : ∃ W9, W9 = wc := ⟨_, rfl⟩
      subst hW9
      have HBW9 : Hid (Below wr.heap.size wr W9) := Lib.hid (HBW8.out.trans (HF8.out.bl.mono HBW8.out.size))
      have HA9 := Lib.hid (HA8.out.below HF8.out.bl)
      have HX9 : Hid (∀ wS, Below W9.heap.size W9 wS → wS.heap[w1.heap.size + 1]? = some (.cells (arr mv) (RowT.T Cv))) := Lib.hid (fun wS hS => (HA9.out.below hS).b4)

      go_upto_region 9 with fail
      go_cut [9, 10] from 31 to 38 (fun s7 s8 wx => ∃ (g7 : Nat) (xv : Cv), s7 = .pointer (some ⟨g7, 0, none⟩) ∧ s8 = .bool e2 ∧ Fc W9 wx g7 xv e1)
      case first =>
        refine A2.wp_region_alt_lit [0, 1, 2, 3, 4] 5 9 [(6, false), (7, false), (8, false), (9, true), (10, true), (11, false)] [(5, true), (6, false), (7, false), (8, false), (10, true), (11, false)] (fun wS => Below W9.heap.size W9 wS) (by kernel_rfl) (by kernel_rfl) (by kernel_rfl) (Below.refl _ _).drew ?_
        simp only [List.map_cons, List.map_nil]
        (refine flow2_take (v := .agg (arr mv)) (o := _) rfl rfl (fun wS hS => gives_row rfl rfl (range_row (HX9.out wS hS)) ⟨hS, Ext.refl wS⟩) ?_; simp only [Act.put, List.setIfInBounds_toArray, List.set_cons_zero, List.set_cons_succ])
        repeat (first | (refine' flow2_pass (o := _) rfl _ _; (focus rfl); simp only [Act.put, List.setIfInBounds_toArray, List.set_cons_zero, List.set_cons_succ]) | (refine' flow2_take (v := _) (o := _) rfl _ _ _; rotate_left; (focus rfl); (focus (intro wS hS; have hE := Ext.refl wS; (skip); go_simp; try (with_reducible (first | exact ⟨rfl, hS, hE⟩ | rfl)); done)); simp only [Act.put, List.setIfInBounds_toArray, List.set_cons_zero, List.set_cons_succ]))
        (refine flow2_take (v := .agg (arr x)) (o := _) rfl rfl (fun wS hS => gives_row rfl rfl (HE.out wS (HBW9.out.trans (hS.mono HBW9.out.size))) ⟨hS, Ext.refl wS⟩) ?_; simp only [Act.put, List.setIfInBounds_toArray, List.set_cons_zero, List.set_cons_succ])
        refine flow2_nil ?_
        intro w0 hE0 hS0
        clear hE0 hS0 w0
        refine ⟨?_, ?_⟩
        · refine flow2_turn (o := _) rfl rfl ?_
          intro wT hE hS K hK
          go_simp
          refine ((fun W hS => HC2.out W (HBW9.out.trans (hS.mono HBW9.out.size))) wT hS).mono ?_
          rintro e w3 ⟨cv1, rfl, hca1, hb3⟩
          have HC3 := Lib.hid hca1
          have hS3 := hS.trans (hb3.mono hS.size)
          refine hK _ _ hS3 ?_
          clear hE hS hK K hb3 hca1 hS3
          simp only [Act.put, List.setIfInBounds_toArray, List.set_cons_zero, List.set_cons_succ]
          repeat (first | (refine' flow2_pass (o := _) rfl _ _; (focus rfl); simp only [Act.put, List.setIfInBounds_toArray, List.set_cons_zero, List.set_cons_succ]) | (refine' flow2_take (v := _) (o := _) rfl _ _ _; rotate_left; (focus rfl); (focus (intro wS hS; have hE := Ext.refl wS; (skip); go_simp; try (with_reducible (first | exact ⟨rfl, hS, hE⟩ | rfl)); done)); simp only [Act.put, List.setIfInBounds_toArray, List.set_cons_zero, List.set_cons_succ]))
          refine flow2_turn (o := _) rfl rfl ?_
          intro wU hE hS K hK
          refine turn_alloc (α := Cv) rfl ?_
          refine hK _ _ (hS.trans (bel_box.mono hS.size)) ?_
          have HC4 := Lib.hid ((HC3.out.below hE).below (bel_box (o := .cells (arr (RowT.z : Cv)) (RowT.T Cv))))
          have HG4 := Lib.hid (And.intro hS.size (heap_alloc_new wU (.cells (arr (RowT.z : Cv)) (RowT.T Cv))))
          obtain ⟨gb, hgb⟩ : ∃ gb, gb = wU.heap.size := ⟨_, rfl⟩
          rw [← hgb] at HG4 ⊢
          clear hE hS hK K hgb
          simp only [Act.put, List.setIfInBounds_toArray, List.set_cons_zero, List.set_cons_succ]
          refine flow2_turn (o := _) rfl rfl ?_
          intro wX hE hS K hK
          have hgx := (hE.block _ (heap_lt HG4.out.2)).trans HG4.out.2
          refine turn_store (α := Cv) (.tmp 9) (.tmp 37) rfl gb cv1 _ (arr_size _) rfl rfl hgx ?_
          intro w5 hb5 hg5 hs5
          have hS5 := hS.grown hg5 hS.size (fun j hj => by cases hj; exact HG4.out.1)
          have HF5 : Hid (Fc W9 w5 gb cv1 e1) := Lib.hid ⟨hS5, HG4.out.1, hb5, (HC4.out.below hE).grown hg5 hgx⟩
          refine hK _ _ hS5 ?_
          clear hE hS hK K hb5 hg5 hs5 hgx hS5
          simp only [Act.put, List.setIfInBounds_toArray, List.set_cons_zero, List.set_cons_succ]
          repeat (first | (refine' flow2_pass (o := _) rfl _ _; (focus rfl); simp only [Act.put, List.setIfInBounds_toArray, List.set_cons_zero, List.set_cons_succ]) | (refine' flow2_take (v := _) (o := _) rfl _ _ _; rotate_left; (focus rfl); (focus (intro wS hS; have hE := Ext.refl wS; (skip); go_simp; try (with_reducible (first | exact ⟨rfl, hS, hE⟩ | rfl)); done)); simp only [Act.put, List.setIfInBounds_toArray, List.set_cons_zero, List.set_cons_succ]))
          refine flow2_nil ?_
          intro w6 hE hS
          have HF6 := Lib.hid (HF5.out.below hE)
          clear hE hS
          go_wp2_with fail
          go_meet
          exact ⟨gb, cv1, rfl, rfl, HF6.out⟩
        · refine flow2_turn (o := _) rfl rfl ?_
          intro wU hE hS K hK
          refine turn_alloc (α := Cv) rfl ?_
          refine hK _ _ (hS.trans (bel_box.mono hS.size)) ?_
          have HG4 := Lib.hid (And.intro hS.size (heap_alloc_new wU (.cells (arr (RowT.z : Cv)) (RowT.T Cv))))
          obtain ⟨gb, hgb⟩ : ∃ gb, gb = wU.heap.size := ⟨_, rfl⟩
          rw [← hgb] at HG4 ⊢
          clear hE hS hK K hgb
          simp only [Act.put, List.setIfInBounds_toArray, List.set_cons_zero, List.set_cons_succ]
          refine flow2_turn (o := _) rfl rfl ?_
          intro wT hE hS K hK
          go_simp
          refine ((fun W hS => HC2.out W (HBW9.out.trans (hS.mono HBW9.out.size))) wT hS).mono ?_
          rintro e w3 ⟨cv1, rfl, hca1, hb3⟩
          have HG3 := Lib.hid ((hb3.block _ (heap_lt ((hE.block _ (heap_lt HG4.out.2)).trans HG4.out.2))).trans ((hE.block _ (heap_lt HG4.out.2)).trans HG4.out.2))
          have HC3 := Lib.hid hca1
          have hS3 := hS.trans (hb3.mono hS.size)
          refine hK _ _ hS3 ?_
          clear hE hS hK K hb3 hca1 hS3
          simp only [Act.put, List.setIfInBounds_toArray, List.set_cons_zero, List.set_cons_succ]
          repeat (first | (refine' flow2_pass (o := _) rfl _ _; (focus rfl); simp only [Act.put, List.setIfInBounds_toArray, List.set_cons_zero, List.set_cons_succ]) | (refine' flow2_take (v := _) (o := _) rfl _ _ _; rotate_left; (focus rfl); (focus (intro wS hS; have hE := Ext.refl wS; (skip); go_simp; try (with_reducible (first | exact ⟨rfl, hS, hE⟩ | rfl)); done)); simp only [Act.put, List.setIfInBounds_toArray, List.set_cons_zero, List.set_cons_succ]))
          refine flow2_turn (o := _) rfl rfl ?_
          intro wX hE hS K hK
          have hgx := (hE.block _ (heap_lt HG3.out)).trans HG3.out
          refine turn_store (α := Cv) (.tmp 9) (.tmp 37) rfl gb cv1 _ (arr_size _) rfl rfl hgx ?_
          intro w5 hb5 hg5 hs5
          have hS5 := hS.grown hg5 hS.size (fun j hj => by cases hj; exact HG4.out.1)
          have HF5 : Hid (Fc W9 w5 gb cv1 e1) := Lib.hid ⟨hS5, HG4.out.1, hb5, (HC3.out.below hE).grown hg5 hgx⟩
          refine hK _ _ hS5 ?_
          clear hE hS hK K hb5 hg5 hs5 hgx hS5
          simp only [Act.put, List.setIfInBounds_toArray, List.set_cons_zero, List.set_cons_succ]
          repeat (first | (refine' flow2_pass (o := _) rfl _ _; (focus rfl); simp only [Act.put, List.setIfInBounds_toArray, List.set_cons_zero, List.set_cons_succ]) | (refine' flow2_take (v := _) (o := _) rfl _ _ _; rotate_left; (focus rfl); (focus (intro wS hS; have hE := Ext.refl wS; (skip); go_simp; try (with_reducible (first | exact ⟨rfl, hS, hE⟩ | rfl)); done)); simp only [Act.put, List.setIfInBounds_toArray, List.set_cons_zero, List.set_cons_succ]))
          refine flow2_nil ?_
          intro w6 hE hS
          have HF6 := Lib.hid (HF5.out.below hE)
          clear hE hS
          go_wp2_with fail
          go_meet
          exact ⟨gb, cv1, rfl, rfl, HF6.out⟩
      case rest =>

      obtain ⟨g9, yv, rfl, rfl, hf9⟩ := hcut
      obtain ⟨W10, hW10⟩ : ∃ W10, W10 = wc := ⟨_, rfl⟩
      subst hW10
      have HZ : Hid (Az w1 W10 cv mv d g6 g7 g9 xv yv e1) := Lib.hid ⟨HA9.out.below hf9.bl, (hf9.bl.block _ (heap_lt ((HF8.out.bl.block _ (heap_lt HG6.out)).trans HG6.out))).trans ((HF8.out.bl.block _ (heap_lt HG6.out)).trans HG6.out), (hf9.bl.block _ (heap_lt HF8.out.eb)).trans HF8.out.eb, hf9.eb, HF8.out.ca.below hf9.bl, hf9.ca, by have := HF8.out.ge; have := heap_lt HA8.out.b4; omega, by have := hf9.ge; have := heap_lt HA9.out.b4; omega⟩
      clear hf9 HF8 HA9 HA8 HX8 HX9 HBW8 HBW9 HG6 HC1 HC2 HE
      have HS1 := Lib.hid (fun W (h : Az w1 W cv mv d g6 g7 g9 xv yv e1) => same_self h.x h.y HFE.out)
      have HS2 := Lib.hid (fun W (h : Az w1 W cv mv d g6 g7 g9 xv yv e1) => same_self h.ap.c h.ap.m HFD.out)
      have HS3 := Lib.hid (fun W (h : Az w1 W cv mv d g6 g7 g9 xv yv e1) => ckok_any h.x HFE.out HVA.out)
      have hxx : (e2 != e2) = false := bne_self_eq_false e2
      go_wp2_with (first
        | (refine rg_load (α := Cv) rfl (.tmp 7) rfl g7 0 rfl xv (range_row HZ.out.b7) ?_)
        | (refine rg_load (α := Cv) rfl (.tmp 9) rfl g9 0 rfl yv (range_row HZ.out.b9) ?_))
      refine (HS1.out _ HZ.out).mono ?_
      rintro r w11 ⟨rfl, hb11⟩
      have HZ1 := Lib.hid (HZ.out.below hb11)
      clear hb11 HZ
      go_wp2_with (first
        | (refine rg_load (α := Cv) rfl (.tmp 6) rfl g6 0 rfl cv (range_row HZ1.out.b6) ?_)
        | (refine rg_load (α := Cv) rfl (.tmp 4) rfl (w1.heap.size + 1) 0 rfl mv (range_row HZ1.out.ap.b4) ?_))
      refine (HS2.out _ HZ1.out).mono ?_
      rintro r w12 ⟨rfl, hb12⟩
      have HZ2 := Lib.hid (HZ1.out.below hb12)
      clear hb12 HZ1
      go_wp2_with (refine rg_load (α := Cv) rfl (.tmp 7) rfl g7 0 rfl xv (range_row HZ2.out.b7) ?_)
      refine (HS3.out _ HZ2.out).mono ?_
      rintro r w13 ⟨rfl, hb13⟩
      have HZ3 := Lib.hid (HZ2.out.below hb13)
      clear hb13 HZ2
      go_wp2_with fail
      have HSA := Lib.hid HZ3.out.sa
      refine wp_region_flow2_lit [(0, false), (1, false), (2, true), (3, true)] (fun wS => Sa w1 wS g7 g9 xv yv e1) (by kernel_rfl) (by kernel_rfl) (by kernel_rfl) (HSA.out.below (Below.refl _ _).drew) ?_
      (refine flow2_take (v := .agg (arr xv)) (o := _) rfl rfl (fun wS hS => gives_row rfl rfl (range_row hS.b7) ⟨hS, Ext.refl wS⟩) ?_; simp only [Act.put, List.setIfInBounds_toArray, List.set_cons_zero, List.set_cons_succ])
      (refine flow2_take (v := .agg (arr yv)) (o := _) rfl rfl (fun wS hS => gives_row rfl rfl (range_row hS.b9) ⟨hS, Ext.refl wS⟩) ?_; simp only [Act.put, List.setIfInBounds_toArray, List.set_cons_zero, List.set_cons_succ])
      refine flow2_turn (o := _) rfl rfl ?_
      intro wT hE hS K hK
      obtain ⟨C, hC, hc⟩ := hS.c3
      refine turn_store (α := Cv) (.tmp 3) (.tmp 59) rfl w1.heap.size xv C hC rfl rfl hc ?_
      intro w14 hb14 hg14 hs14
      have HS14 := Lib.hid (hS.st3 hb14 hg14)
      have HB14 := Lib.hid hb14
      refine hK _ _ HS14.out ?_
      clear hE hS hK K hb14 hg14 hs14 hC hc C
      simp only [Act.put, List.setIfInBounds_toArray, List.set_cons_zero, List.set_cons_succ]
      refine flow2_turn (o := _) rfl rfl ?_
      intro wU hE hS K hK
      obtain ⟨C, hC, hc⟩ := hS.c4
      refine turn_store (α := Cv) (.tmp 4) (.tmp 60) rfl (w1.heap.size + 1) yv C hC rfl rfl hc ?_
      intro w15 hb15 hg15 hs15
      have HS15 := Lib.hid (hS.st4 hb15 hg15)
      have h3 := (hE.block _ (heap_lt HB14.out)).trans HB14.out
      have HB15 := Lib.hid (And.intro ((hg15.block _ (heap_lt h3) (by simp)).trans h3) hb15)
      refine hK _ _ HS15.out ?_
      clear hE hS hK K hb15 hg15 hs15 hC hc C h3 HB14 HS14
      simp only [Act.put, List.setIfInBounds_toArray, List.set_cons_zero, List.set_cons_succ]
      refine flow2_nil ?_
      intro w16 hE hS
      have HAF : Hid (Ap w1 w16 xv yv e1) := Lib.hid ⟨hS.bl, (hE.block _ (heap_lt HB15.out.1)).trans HB15.out.1, (hE.block _ (heap_lt HB15.out.2)).trans HB15.out.2, hS.x, hS.y⟩
      clear hE hS
      go_wp2_with fail
      go_roundw
      case rel => exact ⟨k + 1, by omega, by go_num, xv, yv, by rw [HNX.out]; exact HAF.out⟩
      case measure => simp [intOf]; omega
    · have hltI : ¬ (k : Int) < (l.length : Int) := by omega
      go_wp2_with fail
      refine (kn_any _).mono ?_
      rintro r w14 ⟨rfl, hb14⟩
      have HB14 := Lib.hid (HA.out.bl.trans (hb14.mono HA.out.bl.size))
      clear hb14
      go_wp2_with fail
      go_ret
      exact ⟨rfl, HB14.out⟩
theorem applies_all (A : Option Addr) (M : List Ch) (cap : Nat) (hc : M.length ≤ cap) (hm : cap ≤ maxLen) (hM : ∀ x ∈ M, x.ok) (w : World) (hs : RowsAt w A 18 (M.map cells)) :
    Calls Tryz.prog 7 #[.slice A M.length cap] w fun e w' => e = .returned (.bool true) ∧ Below w.heap.size w w' := applies_walk (ro_of hc hm hs) hM
end Go.Proofs.YtokhnbdhcehonaaGreat
