/- slices.Delete at []api.Packet. -/
import Derived.Test.YtdffghaledkfeaaOps
import Derived.Deep.RegionLaw
namespace Go.Proofs.Ytdffghaledkfeaa
open Go Go.RowKit
theorem setCells_some (b : Nat) : ∀ (vs : List Value) (o : Nat) (w : World) (x : Addr), (w.cell? x).isSome = true → ((w.setCells b o vs).cell? x).isSome = true
  | [], _, _, _, h => h
  | v :: r, o, w, x, h => by
    rw [World.setCells]
    refine setCells_some b r (o + 1) _ x ?_
    by_cases hx : x = ⟨b, o, none⟩
    · subst hx
      obtain ⟨u, hu⟩ := Option.isSome_iff_exists.1 h
      rw [World.cell?_setCell_same _ _ _ hu]; rfl
    · rw [World.cell?_setCell_other _ _ _ _ (Ne.symm hx)]; exact h
set_option maxRecDepth 100000

set_option maxHeartbeats 1600000 in
set_option maxRecDepth 1000000 in
theorem delP_arr (b off n cap i : Nat) (xs : List Value) (cur : Array Value) (news : List Value) (w : World) (hi : i < n) (hn : n ≤ cap) (hm : cap ≤ 9223372036854775807)
    (hnews : news.length = (n - (i + 1)) * 3) (hsrc : ∀ t u, news[t]? = some u → w.cell? ⟨b, off + (i + 1) * 3 + t, none⟩ = some u) (hone : ∀ u ∈ news, u.oneCell' = true)
    (hsome : ∀ j, j < n * 3 → (w.cell? ⟨b, off + j, none⟩).isSome = true) (hfz : ∀ j, w.frozen? ⟨b, j, none⟩ = false) :
    Calls Try.prog 28 #[.slice (some ⟨b, off, none⟩) n cap, .int .i64 i, .int .i64 ((i : Int) + 1)] w fun e w' => e = .returned (.slice (some ⟨b, off, none⟩) (n - 1) cap) ∧ w' = (w.drew.setCells b (off + i * 3) news).setCells b (off + (n - 1) * 3) (Builtin.zeroCells (Value.cells (.agg #[.int .i64 0, .int .i64 0, .string ⟨#[]⟩])) 1).toList := by
  obtain ⟨i0, hi0, hz0, hz1, hz2⟩ := info_parts info23
  obtain ⟨A, hA, hsrc'⟩ : ∃ A : Addr, (if cap = i + 1 then some (⟨b, off, none⟩ : Addr) else some ⟨b, off + (i + 1) * 3, none⟩) = some A ∧ Hid (∀ t u, news[t]? = some u → w.drew.cell? (A.add t) = some u) := by
    by_cases h : cap = i + 1
    · refine ⟨⟨b, off, none⟩, by simp [h], fun t u hu => ?_⟩
      have h0 : news.length = 0 := by rw [hnews, show n - (i + 1) = 0 by omega, Nat.zero_mul]
      rw [List.length_eq_zero_iff.1 h0] at hu
      simp at hu
    · refine ⟨⟨b, off + (i + 1) * 3, none⟩, by simp [h], fun t u hu => ?_⟩
      rw [addr_add]
      have := hsrc t u hu
      simpa using this
  have s1 : Hid (news.length = (n - (i + 1)) * 3) := hnews
  have s2 : Hid (∀ u ∈ news, u.oneCell' = true) := hone
  have s3 : Hid (∀ t, t < news.length → (w.drew.cell? ⟨b, off + i * 3 + t, none⟩).isSome = true ∧ w.drew.frozen? ⟨b, off + i * 3 + t, none⟩ = false) := by
    intro t ht
    rw [hnews] at ht
    have hb : i * 3 + t < n * 3 := by
      have : (i + (n - (i + 1))) * 3 ≤ n * 3 := Nat.mul_le_mul_right _ (by omega)
      rw [Nat.add_mul] at this
      omega
    rw [Nat.add_assoc]
    exact ⟨hsome _ hb, hfz _⟩
  obtain ⟨W1, hW1⟩ : ∃ W1, W1 = w.drew.setCells b (off + i * 3) news := ⟨_, rfl⟩
  have zeros : (Builtin.zeroCells (Value.cells (.agg #[.int .i64 0, .int .i64 0, .string ⟨#[]⟩])) 1).toList = [.int .i64 0, .int .i64 0, .string ⟨#[]⟩] := by first | rfl | kernel_rfl | (simp [Builtin.zeroCells, Value.cells]; done)
  have hz : (Builtin.zeroCells (Value.cells (.agg #[.int .i64 0, .int .i64 0, .string ⟨#[]⟩])) 1).toList.length = 3 := by rw [zeros]; rfl
  have hcl : ∀ ty, (Builtin.clear_ #[30] ty #[.slice (some ⟨b, off + (i + (n - (i + 1))) * 3, none⟩) 1 (cap - (i + (n - (i + 1))))]).run Try.prog W1 = .ok (.tuple #[]) (W1.setCells b (off + (i + (n - (i + 1))) * 3) (Builtin.zeroCells (Value.cells (.agg #[.int .i64 0, .int .i64 0, .string ⟨#[]⟩])) 1).toList) := fun ty =>
    run_clear_sl W1 30 23 ty (.agg #[.int .i64 0, .int .i64 0, .string ⟨#[]⟩]) _ Try.underlying30 (fun w => by kernel_rfl) b _ 1 _ (by omega) rfl (by rw [zeros]; intro u hu; simp at hu; first | (subst hu; rfl) | (rcases hu with rfl | rfl | rfl <;> rfl) | (rcases hu with rfl | rfl <;> rfl))
      (fun t ht => by
        rw [hz] at ht
        have hm1 : (i + (n - (i + 1))) * 3 = (n - 1) * 3 := by rw [show i + (n - (i + 1)) = n - 1 by omega]
        rw [hm1]
        have hb : (n - 1) * 3 + t < n * 3 := by
          obtain ⟨k, rfl⟩ : ∃ k, n = k + 1 := ⟨n - 1, by omega⟩
          rw [Nat.add_sub_cancel, Nat.add_mul]; omega
        rw [hW1, Nat.add_assoc]
        exact setCells_some b news _ _ _ (hsome _ hb))
      (fun t _ => by rw [hW1, World.frozen?_setCells]; exact hfz _)
  have hW : Hid (W1 = w.drew.setCells b (off + i * 3) news) := hW1
  have hic : i ≤ cap := by omega
  have hjc : i + 1 ≤ cap := by omega
  have hp0 : (0 : Int) ≤ (i : Int) + 1 := by omega
  have hp1 : (i : Int) + 1 ≤ (n : Int) := by omega
  have hp2 : ((i : Int) + 1).toNat = i + 1 := by omega
  have hne : ((i : Int) == (i : Int) + 1) = false := by
    have : ¬ (i : Int) = (i : Int) + 1 := by omega
    simpa using this
  have hlen1 : n - (i + (n - (i + 1))) = 1 := by omega
  have hn1 : ((i + (n - (i + 1)) : Nat) : Int) ≤ (n : Int) := by omega
  have hn2 : i + (n - (i + 1)) ≤ n := by omega
  have hnc : ¬ cap = i + (n - (i + 1)) := by omega
  clear hW1 hz hsrc hnews hone hsome hfz
  go_enter Try.func28, Try.ntmps28
  go_wp2_with fail
  go_region_law (refine step_append_room rfl (.tmp 22) (.tmp 25) 30 rfl 23 i0 3 Try.underlying30 hi0 hz1 b off i cap (by simp [Act.eval, Act.put]) A (n - (i + 1)) (cap - (i + 1)) news (by simp [Act.eval, Act.put]) s1.out hsrc'.out s2.out (by omega) s3.out ?_; rw [← hW.out])
  go_wp2
  go_ret
  have hfin : i + (n - (i + 1)) = n - 1 := by omega
  refine ⟨?_, ?_⟩
  · rw [hfin]; rfl
  · rw [hW.out, hfin]
    first | rfl | (simp [Value.cells]; done)


/-- without the one at a place -/
def out {α : Type} (L : List α) (i : Nat) : List α := L.take i ++ L.drop (i + 1)
theorem out_len {α : Type} {L : List α} {i : Nat} (h : i < L.length) : (out L i).length = L.length - 1 := by
  unfold out
  rw [List.length_append, List.length_take, List.length_drop]; omega
theorem del_any {B : Nat} (b off cap i : Nat) (L : List Pk) (w : World) (h : Rw w B (.slice (some ⟨b, off, none⟩) L.length cap) L) (hi : i < L.length) :
    Calls Try.prog 28 #[.slice (some ⟨b, off, none⟩) L.length cap, .int .i64 i, .int .i64 ((i : Int) + 1)] w fun e w' => e = .returned (.slice (some ⟨b, off, none⟩) (L.length - 1) cap) ∧ Rw w' B (.slice (some ⟨b, off, none⟩) (L.length - 1) cap) (out L i) ∧ w.grownBy w' (some b) := by
  obtain ⟨_, _, _, he, hn, hm⟩ := h.sl.shape (by omega)
  cases he
  unfold maxLen at hm
  have hd := h.sl.del (i := i) (zl := (Builtin.zeroCells (Value.cells (.agg #[.int .i64 0, .int .i64 0, .string ⟨#[]⟩])) 1).toList) hi (by kernel_rfl)
  rw [cells3_take, cells3_drop, ← cells3_append] at hd
  refine (delP_arr b off L.length cap i (cells3 L) (cells3 L).toArray (cells3 (L.drop (i + 1))) w hi hn hm ?_ ?_ (cells3_one _) ?_ (fun j => h.sl.froz j)).mono ?_
  · rw [cells3_len, List.length_drop]
  · intro t u hu
    rw [← cells3_drop, List.getElem?_drop] at hu
    rw [Nat.add_assoc]
    exact h.sl.cell hu
  · intro j hj
    obtain ⟨u, hu⟩ : ∃ u, (cells3 L)[j]? = some u := ⟨_, List.getElem?_eq_getElem (by rw [cells3_len]; exact hj)⟩
    rw [h.sl.cell hu]; rfl
  · rintro e w' ⟨rfl, rfl⟩
    refine ⟨rfl, ?_, hd.2⟩
    show Sl _ _ _ _ _ _ _
    rw [out_len hi]
    exact hd.1
end Go.Proofs.Ytdffghaledkfeaa
