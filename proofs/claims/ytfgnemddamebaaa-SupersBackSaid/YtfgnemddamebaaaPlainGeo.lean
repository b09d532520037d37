/- Layouts, in plain numbers. -/
set_option linter.unusedVariables false
namespace Go.Proofs.Ytfgnemddamebaaa

/-- the bitmap's blocks -/
def gMap (b : Int) : Int := (b + 1024 - 1) / 1024
/-- where data begins -/
def gData (b l m : Int) : Int := 1 + l + gMap b + m / 2

def geoOk (b l m : Int) : Bool :=
  decide (256 ≤ b) && decide (b ≤ 4096) && decide (128 ≤ l) && decide (l ≤ 512) && decide (8 ≤ m) && decide (m ≤ 512) && decide (m % 2 = 0) && decide (16 ≤ b - gData b l m)

theorem geoOk_iff {b l m : Int} : geoOk b l m = true ↔ 256 ≤ b ∧ b ≤ 4096 ∧ 128 ≤ l ∧ l ≤ 512 ∧ 8 ≤ m ∧ m ≤ 512 ∧ m % 2 = 0 ∧ 16 ≤ b - gData b l m := by
  simp [geoOk, and_assoc]

/-- is a layout one that Of tells? -/
def mayB (b l m la ma ml ta tl da : Int) : Bool :=
  geoOk b l m && (decide (la = 1) && decide (ma = 1 + l) && decide (ml = gMap b) && decide (ta = 1 + l + gMap b) && decide (tl = m / 2) && decide (da = gData b l m))

theorem mayB_iff {b l m la ma ml ta tl da : Int} : mayB b l m la ma ml ta tl da = true ↔ geoOk b l m = true ∧ la = 1 ∧ ma = 1 + l ∧ ml = gMap b ∧ ta = 1 + l + gMap b ∧ tl = m / 2 ∧ da = gData b l m := by
  simp [mayB, and_assoc]

/-- which part a block is of -/
def whereV (b l m la ma ml ta tl da block : Int) : Int :=
  if mayB b l m la ma ml ta tl da = true ∧ 0 ≤ block ∧ block < b then
    (if block < la then 0 else if block < ma then 1 else if block < ta then 2 else if block < da then 3 else 4)
  else -1

end Go.Proofs.Ytfgnemddamebaaa
