/- slices.Delete at []string. -/
import Derived.Test.YtcocdhlpmgfphaaProg
import Derived.Test.YtcocdhlpmgfphaaSlice
import Derived.Deep.RegionLaw
namespace Go.Proofs.Ytcocdhlpmgfphaa
open Go Go.RowKit
theorem setCells_some (b : Nat) : ∀ (vs : List Value) (o : Nat) (w : World) (x : Addr), (w.cell? x).isSome = true → ((w.setCells b o vs).cell? x).isSome = true
  | [], _, _, _, h => h
  | v :: r, o, w, x, h => by
    rw [World.setCells]
    refine setCells_some b r (o + 1) _ x ?_
    by_cases hx : x = ⟨b, o, none⟩
    · subst hx
      obtain ⟨u, hu⟩ := Option.isSome_iff_exists.1 h
      rw [World.cell?_setCell_same _ _ _ hu]; rfl
    · rw [World.cell?_setCell_other _ _ _ _ (Ne.symm hx)]; exact h
theorem info9 : (Try.prog.info? 9).map (fun i => (i.zero, i.size, i.bytes)) = some (some (.string ⟨#[]⟩), 1, 16) := by kernel_rfl

set_option maxHeartbeats 1600000 in
set_option maxRecDepth 1000000 in
theorem delS_arr (b off n cap i : Nat) (xs : List Value) (cur : Array Value) (news : List Value) (w : World) (hi : i < n) (hn : n ≤ cap) (hm : cap ≤ 9223372036854775807)
    (hnews : news.length = (n - (i + 1)) * 1) (hsrc : ∀ t u, news[t]? = some u → w.cell? ⟨b, off + (i + 1) * 1 + t, none⟩ = some u) (hone : ∀ u ∈ news, u.oneCell' = true)
    (hsome : ∀ j, j < n * 1 → (w.cell? ⟨b, off + j, none⟩).isSome = true) (hfz : ∀ j, w.frozen? ⟨b, j, none⟩ = false) :
    Calls Try.prog 37 #[.slice (some ⟨b, off, none⟩) n cap, .int .i64 i, .int .i64 ((i : Int) + 1)] w fun e w' => e = .returned (.slice (some ⟨b, off, none⟩) (n - 1) cap) ∧ w' = (w.drew.setCells b (off + i * 1) news).setCells b (off + (n - 1) * 1) (Builtin.zeroCells (Value.cells (.string ⟨#[]⟩)) 1).toList := by
  obtain ⟨i0, hi0, hz0, hz1, hz2⟩ := info_parts info9
  obtain ⟨A, hA, hsrc'⟩ : ∃ A : Addr, (if cap = i + 1 then some (⟨b, off, none⟩ : Addr) else some ⟨b, off + (i + 1), none⟩) = some A ∧ Hid (∀ t u, news[t]? = some u → w.drew.cell? (A.add t) = some u) := by
    by_cases h : cap = i + 1
    · refine ⟨⟨b, off, none⟩, by simp [h], fun t u hu => ?_⟩
      have h0 : news.length = 0 := by rw [hnews, show n - (i + 1) = 0 by omega, Nat.zero_mul]
      rw [List.length_eq_zero_iff.1 h0] at hu
      simp at hu
    · refine ⟨⟨b, off + (i + 1), none⟩, by simp [h], fun t u hu => ?_⟩
      rw [addr_add]
      have := hsrc t u hu
      simpa using this
  have s1 : Hid (news.length = (n - (i + 1)) * 1) := hnews
  have s2 : Hid (∀ u ∈ news, u.oneCell' = true) := hone
  have s3 : Hid (∀ t, t < news.length → (w.drew.cell? ⟨b, off + i * 1 + t, none⟩).isSome = true ∧ w.drew.frozen? ⟨b, off + i * 1 + t, none⟩ = false) := by
    intro t ht
    rw [hnews] at ht
    have hb : i * 1 + t < n * 1 := by
      have : (i + (n - (i + 1))) * 1 ≤ n * 1 := Nat.mul_le_mul_right _ (by omega)
      rw [Nat.add_mul] at this
      omega
    rw [Nat.add_assoc]
    exact ⟨hsome _ hb, hfz _⟩
  obtain ⟨W1, hW1⟩ : ∃ W1, W1 = w.drew.setCells b (off + i * 1) news := ⟨_, rfl⟩
  have zeros : (Builtin.zeroCells (Value.cells (.string ⟨#[]⟩)) 1).toList = [.string ⟨#[]⟩] := by first | rfl | kernel_rfl | (simp [Builtin.zeroCells, Value.cells]; done)
  have hz : (Builtin.zeroCells (Value.cells (.string ⟨#[]⟩)) 1).toList.length = 1 := by rw [zeros]; rfl
  have hcl : ∀ ty, (Builtin.clear_ #[22] ty #[.slice (some ⟨b, off + (i + (n - (i + 1))), none⟩) 1 (cap - (i + (n - (i + 1))))]).run Try.prog W1 = .ok (.tuple #[]) (W1.setCells b (off + (i + (n - (i + 1)))) (Builtin.zeroCells (Value.cells (.string ⟨#[]⟩)) 1).toList) := fun ty =>
    run_clear_sl W1 22 9 ty (.string ⟨#[]⟩) _ Try.underlying22 (fun w => by kernel_rfl) b _ 1 _ (by omega) rfl (by rw [zeros]; intro u hu; simp at hu; subst hu; rfl)
      (fun t ht => by
        rw [hz] at ht
        have hm1 : (i + (n - (i + 1))) = (n - 1) * 1 := by rw [show i + (n - (i + 1)) = n - 1 by omega]; simp
        rw [hm1]
        have hb : (n - 1) * 1 + t < n * 1 := by
          obtain ⟨k, rfl⟩ : ∃ k, n = k + 1 := ⟨n - 1, by omega⟩
          rw [Nat.add_sub_cancel, Nat.add_mul]; omega
        rw [hW1, Nat.add_assoc]
        exact setCells_some b news _ _ _ (hsome _ hb))
      (fun t _ => by rw [hW1, World.frozen?_setCells]; exact hfz _)
  have hW : Hid (W1 = w.drew.setCells b (off + i * 1) news) := hW1
  have hic : i ≤ cap := by omega
  have hjc : i + 1 ≤ cap := by omega
  have hp0 : (0 : Int) ≤ (i : Int) + 1 := by omega
  have hp1 : (i : Int) + 1 ≤ (n : Int) := by omega
  have hp2 : ((i : Int) + 1).toNat = i + 1 := by omega
  have hne : ((i : Int) == (i : Int) + 1) = false := by
    have : ¬ (i : Int) = (i : Int) + 1 := by omega
    simpa using this
  have hlen1 : n - (i + (n - (i + 1))) = 1 := by omega
  have hn1 : ((i + (n - (i + 1)) : Nat) : Int) ≤ (n : Int) := by omega
  have hn2 : i + (n - (i + 1)) ≤ n := by omega
  have hnc : ¬ cap = i + (n - (i + 1)) := by omega
  clear hW1 hz hsrc hnews hone hsome hfz
  go_enter Try.func37, Try.ntmps37
  go_wp2_with fail
  go_region_law (refine step_append_room rfl (.tmp 22) (.tmp 25) 22 rfl 9 i0 1 Try.underlying22 hi0 hz1 b off i cap (by simp [Act.eval, Act.put]) A (n - (i + 1)) (cap - (i + 1)) news (by simp [Act.eval, Act.put]) s1.out hsrc'.out s2.out (by omega) s3.out ?_; rw [← hW.out])
  go_wp2
  go_ret
  have hfin : i + (n - (i + 1)) = n - 1 := by omega
  refine ⟨?_, ?_⟩
  · rw [hfin]; rfl
  · rw [hW.out, hfin]
    first | rfl | (simp [Value.cells]; done)

end Go.Proofs.Ytcocdhlpmgfphaa
