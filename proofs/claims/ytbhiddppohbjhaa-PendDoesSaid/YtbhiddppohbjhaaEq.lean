/- pend: a call is itself, by Go's '==' on its 34 cells. -/
import Derived.Test.YtbhiddppohbjhaaOps3
namespace Go.Proofs.Ytbhiddppohbjhaa
open Go Go.RowKit Go.Maps Go.WideShapes Go.ChangeMaps Go.WideMaps Go.MapKept
set_option maxRecDepth 100000
/-- the 24 cells, one by one -/
theorem re_cases {re : List Value} (h : Typed ks24 re) : ∃ (n0 : Int) (s0 s1 s2 s3 : ByteArray) (n1 n2 n3 : Int) (s4 : ByteArray) (b0 : Bool) (m0 : Int) (b1 : Bool) (m1 : Int) (b2 : Bool) (m2 : Int) (b3 : Bool) (m3 : Int) (b4 : Bool) (m4 : Int) (b5 : Bool) (m5 : Int) (n4 n5 : Int) (s5 : ByteArray),
    re = [.int .i64 n0, .string s0, .string s1, .string s2, .string s3, .int .i64 n1, .int .i64 n2, .int .i64 n3, .string s4, .bool b0, .int .i64 m0, .bool b1, .int .i64 m1, .bool b2, .int .i64 m2, .bool b3, .int .i64 m3, .bool b4, .int .i64 m4, .bool b5, .int .i64 m5, .int .i64 n4, .int .i64 n5, .string s5] := by
  have ki : ∀ v, leafOk 2 v → ∃ n, v = .int .i64 n := fun v h => by
    cases v <;> simp [leafOk] at h
    exact ⟨_, by rw [h.1]⟩
  have ks : ∀ v, leafOk 1 v → ∃ n, v = .string n := fun v h => by
    cases v <;> simp [leafOk] at h
    exact ⟨_, rfl⟩
  have kb : ∀ v, leafOk 0 v → ∃ n, v = .bool n := fun v h => by
    cases v <;> simp [leafOk] at h
    exact ⟨_, rfl⟩
  match re, h with
  | [v0, v1, v2, v3, v4, v5, v6, v7, v8, v9, v10, v11, v12, v13, v14, v15, v16, v17, v18, v19, v20, v21, v22, v23], ⟨h0, h1, h2, h3, h4, h5, h6, h7, h8, h9, h10, h11, h12, h13, h14, h15, h16, h17, h18, h19, h20, h21, h22, h23, _⟩ =>
    obtain ⟨_, rfl⟩ := ki v0 h0
    obtain ⟨_, rfl⟩ := ks v1 h1
    obtain ⟨_, rfl⟩ := ks v2 h2
    obtain ⟨_, rfl⟩ := ks v3 h3
    obtain ⟨_, rfl⟩ := ks v4 h4
    obtain ⟨_, rfl⟩ := ki v5 h5
    obtain ⟨_, rfl⟩ := ki v6 h6
    obtain ⟨_, rfl⟩ := ki v7 h7
    obtain ⟨_, rfl⟩ := ks v8 h8
    obtain ⟨_, rfl⟩ := kb v9 h9
    obtain ⟨_, rfl⟩ := ki v10 h10
    obtain ⟨_, rfl⟩ := kb v11 h11
    obtain ⟨_, rfl⟩ := ki v12 h12
    obtain ⟨_, rfl⟩ := kb v13 h13
    obtain ⟨_, rfl⟩ := ki v14 h14
    obtain ⟨_, rfl⟩ := kb v15 h15
    obtain ⟨_, rfl⟩ := ki v16 h16
    obtain ⟨_, rfl⟩ := kb v17 h17
    obtain ⟨_, rfl⟩ := ki v18 h18
    obtain ⟨_, rfl⟩ := kb v19 h19
    obtain ⟨_, rfl⟩ := ki v20 h20
    obtain ⟨_, rfl⟩ := ki v21 h21
    obtain ⟨_, rfl⟩ := ki v22 h22
    obtain ⟨_, rfl⟩ := ks v23 h23
    exact ⟨_, _, _, _, _, _, _, _, _, _, _, _, _, _, _, _, _, _, _, _, _, _, _, _, rfl⟩
set_option maxHeartbeats 8000000 in
theorem equal_self {p : Pd} (hp : p.ok) (w : World) : (Op.equalIn 10000 37 (.agg p.arr) (.agg p.arr)).run Try.prog w = .ok true w := by
  obtain ⟨cl, sq, ui, gi, fr, xi, ag, up, sn, du, re⟩ := p
  obtain ⟨n0, s0, s1, s2, s3, n1, n2, n3, s4, b0, m0, b1, m1, b2, m2, b3, m3, b4, m4, b5, m5, n4, n5, s5, hre⟩ := re_cases hp.re
  simp only at hre
  subst hre
  clear hp
  simp only [Pd.arr, Pd.cells]
  go_simp
end Go.Proofs.Ytbhiddppohbjhaa
