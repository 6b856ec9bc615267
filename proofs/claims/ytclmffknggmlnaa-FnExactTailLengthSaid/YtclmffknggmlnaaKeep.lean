/- Facts on n cells, kept behind Bel (for go_region_held3's second argument). No program. -/
import Derived.Test.YtclmffknggmlnaaBase
namespace Go.Proofs.Ytclmffknggmlnaa
open Go.RowKit
theorem keep1 {a b : World} {p0 : Addr} {v0 : Value} (h : a.cell? p0 = some v0) (g : Bel a b) : b.cell? p0 = some v0 := by
  have h0 := h
  exact g.cell h0
theorem keep2 {a b : World} {p0 p1 : Addr} {v0 v1 : Value} (h : a.cell? p0 = some v0 ∧ a.cell? p1 = some v1) (g : Bel a b) : b.cell? p0 = some v0 ∧ b.cell? p1 = some v1 := by
  obtain ⟨h0, h1⟩ := h
  exact ⟨g.cell h0, g.cell h1⟩
theorem keep3 {a b : World} {p0 p1 p2 : Addr} {v0 v1 v2 : Value} (h : a.cell? p0 = some v0 ∧ a.cell? p1 = some v1 ∧ a.cell? p2 = some v2) (g : Bel a b) : b.cell? p0 = some v0 ∧ b.cell? p1 = some v1 ∧ b.cell? p2 = some v2 := by
  obtain ⟨h0, h1, h2⟩ := h
  exact ⟨g.cell h0, g.cell h1, g.cell h2⟩
theorem keep4 {a b : World} {p0 p1 p2 p3 : Addr} {v0 v1 v2 v3 : Value} (h : a.cell? p0 = some v0 ∧ a.cell? p1 = some v1 ∧ a.cell? p2 = some v2 ∧ a.cell? p3 = some v3) (g : Bel a b) : b.cell? p0 = some v0 ∧ b.cell? p1 = some v1 ∧ b.cell? p2 = some v2 ∧ b.cell? p3 = some v3 := by
  obtain ⟨h0, h1, h2, h3⟩ := h
  exact ⟨g.cell h0, g.cell h1, g.cell h2, g.cell h3⟩
theorem keep5 {a b : World} {p0 p1 p2 p3 p4 : Addr} {v0 v1 v2 v3 v4 : Value} (h : a.cell? p0 = some v0 ∧ a.cell? p1 = some v1 ∧ a.cell? p2 = some v2 ∧ a.cell? p3 = some v3 ∧ a.cell? p4 = some v4) (g : Bel a b) : b.cell? p0 = some v0 ∧ b.cell? p1 = some v1 ∧ b.cell? p2 = some v2 ∧ b.cell? p3 = some v3 ∧ b.cell? p4 = some v4 := by
  obtain ⟨h0, h1, h2, h3, h4⟩ := h
  exact ⟨g.cell h0, g.cell h1, g.cell h2, g.cell h3, g.cell h4⟩
theorem keep6 {a b : World} {p0 p1 p2 p3 p4 p5 : Addr} {v0 v1 v2 v3 v4 v5 : Value} (h : a.cell? p0 = some v0 ∧ a.cell? p1 = some v1 ∧ a.cell? p2 = some v2 ∧ a.cell? p3 = some v3 ∧ a.cell? p4 = some v4 ∧ a.cell? p5 = some v5) (g : Bel a b) : b.cell? p0 = some v0 ∧ b.cell? p1 = some v1 ∧ b.cell? p2 = some v2 ∧ b.cell? p3 = some v3 ∧ b.cell? p4 = some v4 ∧ b.cell? p5 = some v5 := by
  obtain ⟨h0, h1, h2, h3, h4, h5⟩ := h
  exact ⟨g.cell h0, g.cell h1, g.cell h2, g.cell h3, g.cell h4, g.cell h5⟩
theorem keep7 {a b : World} {p0 p1 p2 p3 p4 p5 p6 : Addr} {v0 v1 v2 v3 v4 v5 v6 : Value} (h : a.cell? p0 = some v0 ∧ a.cell? p1 = some v1 ∧ a.cell? p2 = some v2 ∧ a.cell? p3 = some v3 ∧ a.cell? p4 = some v4 ∧ a.cell? p5 = some v5 ∧ a.cell? p6 = some v6) (g : Bel a b) : b.cell? p0 = some v0 ∧ b.cell? p1 = some v1 ∧ b.cell? p2 = some v2 ∧ b.cell? p3 = some v3 ∧ b.cell? p4 = some v4 ∧ b.cell? p5 = some v5 ∧ b.cell? p6 = some v6 := by
  obtain ⟨h0, h1, h2, h3, h4, h5, h6⟩ := h
  exact ⟨g.cell h0, g.cell h1, g.cell h2, g.cell h3, g.cell h4, g.cell h5, g.cell h6⟩
theorem keep8 {a b : World} {p0 p1 p2 p3 p4 p5 p6 p7 : Addr} {v0 v1 v2 v3 v4 v5 v6 v7 : Value} (h : a.cell? p0 = some v0 ∧ a.cell? p1 = some v1 ∧ a.cell? p2 = some v2 ∧ a.cell? p3 = some v3 ∧ a.cell? p4 = some v4 ∧ a.cell? p5 = some v5 ∧ a.cell? p6 = some v6 ∧ a.cell? p7 = some v7) (g : Bel a b) : b.cell? p0 = some v0 ∧ b.cell? p1 = some v1 ∧ b.cell? p2 = some v2 ∧ b.cell? p3 = some v3 ∧ b.cell? p4 = some v4 ∧ b.cell? p5 = some v5 ∧ b.cell? p6 = some v6 ∧ b.cell? p7 = some v7 := by
  obtain ⟨h0, h1, h2, h3, h4, h5, h6, h7⟩ := h
  exact ⟨g.cell h0, g.cell h1, g.cell h2, g.cell h3, g.cell h4, g.cell h5, g.cell h6, g.cell h7⟩
theorem keep9 {a b : World} {p0 p1 p2 p3 p4 p5 p6 p7 p8 : Addr} {v0 v1 v2 v3 v4 v5 v6 v7 v8 : Value} (h : a.cell? p0 = some v0 ∧ a.cell? p1 = some v1 ∧ a.cell? p2 = some v2 ∧ a.cell? p3 = some v3 ∧ a.cell? p4 = some v4 ∧ a.cell? p5 = some v5 ∧ a.cell? p6 = some v6 ∧ a.cell? p7 = some v7 ∧ a.cell? p8 = some v8) (g : Bel a b) : b.cell? p0 = some v0 ∧ b.cell? p1 = some v1 ∧ b.cell? p2 = some v2 ∧ b.cell? p3 = some v3 ∧ b.cell? p4 = some v4 ∧ b.cell? p5 = some v5 ∧ b.cell? p6 = some v6 ∧ b.cell? p7 = some v7 ∧ b.cell? p8 = some v8 := by
  obtain ⟨h0, h1, h2, h3, h4, h5, h6, h7, h8⟩ := h
  exact ⟨g.cell h0, g.cell h1, g.cell h2, g.cell h3, g.cell h4, g.cell h5, g.cell h6, g.cell h7, g.cell h8⟩
theorem keep10 {a b : World} {p0 p1 p2 p3 p4 p5 p6 p7 p8 p9 : Addr} {v0 v1 v2 v3 v4 v5 v6 v7 v8 v9 : Value} (h : a.cell? p0 = some v0 ∧ a.cell? p1 = some v1 ∧ a.cell? p2 = some v2 ∧ a.cell? p3 = some v3 ∧ a.cell? p4 = some v4 ∧ a.cell? p5 = some v5 ∧ a.cell? p6 = some v6 ∧ a.cell? p7 = some v7 ∧ a.cell? p8 = some v8 ∧ a.cell? p9 = some v9) (g : Bel a b) : b.cell? p0 = some v0 ∧ b.cell? p1 = some v1 ∧ b.cell? p2 = some v2 ∧ b.cell? p3 = some v3 ∧ b.cell? p4 = some v4 ∧ b.cell? p5 = some v5 ∧ b.cell? p6 = some v6 ∧ b.cell? p7 = some v7 ∧ b.cell? p8 = some v8 ∧ b.cell? p9 = some v9 := by
  obtain ⟨h0, h1, h2, h3, h4, h5, h6, h7, h8, h9⟩ := h
  exact ⟨g.cell h0, g.cell h1, g.cell h2, g.cell h3, g.cell h4, g.cell h5, g.cell h6, g.cell h7, g.cell h8, g.cell h9⟩
theorem keep11 {a b : World} {p0 p1 p2 p3 p4 p5 p6 p7 p8 p9 p10 : Addr} {v0 v1 v2 v3 v4 v5 v6 v7 v8 v9 v10 : Value} (h : a.cell? p0 = some v0 ∧ a.cell? p1 = some v1 ∧ a.cell? p2 = some v2 ∧ a.cell? p3 = some v3 ∧ a.cell? p4 = some v4 ∧ a.cell? p5 = some v5 ∧ a.cell? p6 = some v6 ∧ a.cell? p7 = some v7 ∧ a.cell? p8 = some v8 ∧ a.cell? p9 = some v9 ∧ a.cell? p10 = some v10) (g : Bel a b) : b.cell? p0 = some v0 ∧ b.cell? p1 = some v1 ∧ b.cell? p2 = some v2 ∧ b.cell? p3 = some v3 ∧ b.cell? p4 = some v4 ∧ b.cell? p5 = some v5 ∧ b.cell? p6 = some v6 ∧ b.cell? p7 = some v7 ∧ b.cell? p8 = some v8 ∧ b.cell? p9 = some v9 ∧ b.cell? p10 = some v10 := by
  obtain ⟨h0, h1, h2, h3, h4, h5, h6, h7, h8, h9, h10⟩ := h
  exact ⟨g.cell h0, g.cell h1, g.cell h2, g.cell h3, g.cell h4, g.cell h5, g.cell h6, g.cell h7, g.cell h8, g.cell h9, g.cell h10⟩
theorem keep12 {a b : World} {p0 p1 p2 p3 p4 p5 p6 p7 p8 p9 p10 p11 : Addr} {v0 v1 v2 v3 v4 v5 v6 v7 v8 v9 v10 v11 : Value} (h : a.cell? p0 = some v0 ∧ a.cell? p1 = some v1 ∧ a.cell? p2 = some v2 ∧ a.cell? p3 = some v3 ∧ a.cell? p4 = some v4 ∧ a.cell? p5 = some v5 ∧ a.cell? p6 = some v6 ∧ a.cell? p7 = some v7 ∧ a.cell? p8 = some v8 ∧ a.cell? p9 = some v9 ∧ a.cell? p10 = some v10 ∧ a.cell? p11 = some v11) (g : Bel a b) : b.cell? p0 = some v0 ∧ b.cell? p1 = some v1 ∧ b.cell? p2 = some v2 ∧ b.cell? p3 = some v3 ∧ b.cell? p4 = some v4 ∧ b.cell? p5 = some v5 ∧ b.cell? p6 = some v6 ∧ b.cell? p7 = some v7 ∧ b.cell? p8 = some v8 ∧ b.cell? p9 = some v9 ∧ b.cell? p10 = some v10 ∧ b.cell? p11 = some v11 := by
  obtain ⟨h0, h1, h2, h3, h4, h5, h6, h7, h8, h9, h10, h11⟩ := h
  exact ⟨g.cell h0, g.cell h1, g.cell h2, g.cell h3, g.cell h4, g.cell h5, g.cell h6, g.cell h7, g.cell h8, g.cell h9, g.cell h10, g.cell h11⟩
end Go.Proofs.Ytclmffknggmlnaa
