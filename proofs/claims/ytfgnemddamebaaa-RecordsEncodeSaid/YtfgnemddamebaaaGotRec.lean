/- What is known of a record that came in. -/
import Derived.Test.YtfgnemddamebaaaGotGen
import Derived.Test.YtfgnemddamebaaaRecWalks3
import Derived.Test.YtfgnemddamebaaaPlainRec2
set_option linter.unusedVariables false
set_option linter.unusedSimpArgs false
set_option maxRecDepth 100000
namespace Go.Proofs.Ytfgnemddamebaaa
open Go.RowKit Go.Joins Go.ChangeShapes Go.WideShapes Go.Deep

/-- a record's slices have room; nil has none -/
structure RcR (x : Rc) (ah : Option Addr) (ch : Nat) (am : Option Addr) (cm : Nat) : Prop where
  h1 : x.hs.length ≤ ch
  h2 : ch ≤ maxLen
  h3 : ah = none → ch = 0
  m1 : x.ms.length ≤ cm
  m2 : cm ≤ maxLen
  m3 : am = none → cm = 0
  k : i64B x.k
  t : i64B x.at_
  hz : ∀ z ∈ x.hs, i64B z

theorem got_rec {W : World} {v : Value} (h : Got Try.prog W 27 v) :
    ∃ x ah ch am cm, v = rcV x ah ch am cm ∧ x.fit ∧ RcR x ah ch am cm ∧ RcS W x ah am := by
  obtain ⟨base, H, enc, d, ps, h1, h2, _⟩ := h
  obtain ⟨v0, v1, v2, v3, v4, v5, y0, y1, y2, y3, y4, y5, n, rfl, g0, g1, g2, g3, g4, g5⟩ := open_agg6 Try.underlying27 (by kernel_rfl) (by kernel_rfl) h1 h2
  obtain ⟨k, rfl, b0⟩ := trod_i64 Try.underlying3 g0
  obtain ⟨q, rfl, b1, b1'⟩ := trod_u64 Try.underlying22 g1
  obtain ⟨t, rfl, b2⟩ := trod_i64 Try.underlying3 g2
  obtain ⟨ah, ch, hs, e3, c1, c2, c3, c4, c5⟩ := trod_vals (Value.int .i64) i64B Try.underlying23 (by kernel_rfl) (fun n v y hy => trod_i64 Try.underlying3 hy) g3
  obtain ⟨am, cm, ms, e4, d1, d2, d3, d4, d5⟩ := trod_vals Value.bool (fun _ => True) Try.underlying24 (by kernel_rfl) (fun n v y hy => by obtain ⟨b, e⟩ := trod_boolv Try.underlying4 hy; exact ⟨b, e, trivial⟩) g4
  obtain ⟨u, rfl, b5, b5'⟩ := trod_u32 Try.underlying25 g5
  obtain rfl : v3 = .slice ah hs.length ch := by simpa using e3
  obtain rfl : v4 = .slice am ms.length cm := by simpa using e4
  exact ⟨⟨k, q, t, hs, ms, u⟩, ah, ch, am, cm, rfl, ⟨b1, b1', b5, b5'⟩, ⟨c1, c2, c5, d1, d2, d5, b0, b2, c4⟩, c3, d3⟩

end Go.Proofs.Ytfgnemddamebaaa
