/- Facts on superblocks' blocks: what is encoded is decoded. -/
import Derived.Test.YtfgnemddamebaaaSupersAlive
set_option linter.unusedVariables false
set_option linter.unusedSimpArgs false
set_option maxRecDepth 100000
namespace Go.Proofs.Ytfgnemddamebaaa
open Go.RowKit Go.Joins

theorem same_bytes2 (a b : ByteArray) (p : Prop) [Decidable p] (h : a = b ↔ p) : (a.toList == b.toList) = decide p := by
  rw [← beq_toListBytes, show (a == b) = (a.data == b.data) by cases a; cases b; rfl, Bool.eq_iff_iff, beq_iff_eq, decide_eq_true_eq, ← h]
  exact ⟨ByteArray.ext, congrArg _⟩

theorem enc_data2 (xs : List Int) : (encV xs).data.toList = magicS ++ words4 xs ++ List.replicate 80 0 := by simp [encV, encS]

set_option maxHeartbeats 1000000 in
theorem eq_super2 (b l m c i g f t n v b' l' m' c' i' g' f' t' n' v' : Int) (w : World) : (Op.equalIn 10000 49 (.agg #[.int .i64 b, .int .i64 l, .int .i64 m, .int .i64 c, .int .i64 i, .int .i64 g, .int .i64 f, .int .i64 t, .int .i64 n, .int .i64 v]) (.agg #[.int .i64 b', .int .i64 l', .int .i64 m', .int .i64 c', .int .i64 i', .int .i64 g', .int .i64 f', .int .i64 t', .int .i64 n', .int .i64 v'])).run Try.prog w = .ok ((b == b' && (l == l' && (m == m' && (c == c' && (i == i' && (g == g' && (f == f' && (t == t' && (n == n' && (v == v'))))))))))) w := by
  go_simp
  by_cases h0 : b = b'
  · by_cases h1 : l = l'
    · by_cases h2 : m = m'
      · by_cases h3 : c = c'
        · by_cases h4 : i = i'
          · by_cases h5 : g = g'
            · by_cases h6 : f = f'
              · by_cases h7 : t = t'
                · by_cases h8 : n = n'
                  · by_cases h9 : v = v' <;> simp [h0, h1, h2, h3, h4, h5, h6, h7, h8, h9]
                  · simp [h0, h1, h2, h3, h4, h5, h6, h7, h8]
                · simp [h0, h1, h2, h3, h4, h5, h6, h7]
              · simp [h0, h1, h2, h3, h4, h5, h6]
            · simp [h0, h1, h2, h3, h4, h5]
          · simp [h0, h1, h2, h3, h4]
        · simp [h0, h1, h2, h3]
      · simp [h0, h1, h2]
    · simp [h0, h1]
  · simp [h0]

theorem dec_enc (xs : List Int) (h : xs.length = 10) (bd : ∀ x ∈ xs, 0 ≤ x ∧ x ≤ 4096) (k : Nat) (hk : k < 10) : dec (encV xs) k = xs[k]'(by omega) := by
  have a1 := bd _ (List.getElem_mem (by omega : k < xs.length))
  have hg : getL (encV xs).data.toList (8 + 4 * (k : Int)) 4 = (xs[k]'(by omega)).toNat := by
    rw [enc_data2, show (8 + 4 * (k : Int)) = ((magicS.length + 4 * k : Nat) : Int) by simp [magicS]]
    exact getL_words magicS xs k (by omega) (by omega) (by omega) _
  have hf : fits (encV xs).size (8 + 4 * (k : Int)) 4 = true := fits_iff.2 ⟨by omega, by omega, by rw [encV_size xs h]; omega⟩
  have ho : getIOk (encV xs) (8 + 4 * (k : Int)) 4 = true := by
    rw [getIOk, hf, hg, Bool.true_and, decide_eq_true_eq]; omega
  rw [dec, getIV, if_pos ho, hg]; omega

theorem decOk_enc (b l m c i g f t n v : Int) (h : superOk b l m c i g f t n v = true) : decOk (encV [b, l, m, c, i, g, f, t, n, v]) = true ∧ dec (encV [b, l, m, c, i, g, f, t, n, v]) 0 = b ∧ dec (encV [b, l, m, c, i, g, f, t, n, v]) 1 = l ∧ dec (encV [b, l, m, c, i, g, f, t, n, v]) 2 = m ∧ dec (encV [b, l, m, c, i, g, f, t, n, v]) 3 = c ∧ dec (encV [b, l, m, c, i, g, f, t, n, v]) 4 = i ∧ dec (encV [b, l, m, c, i, g, f, t, n, v]) 5 = g ∧ dec (encV [b, l, m, c, i, g, f, t, n, v]) 6 = f ∧ dec (encV [b, l, m, c, i, g, f, t, n, v]) 7 = t ∧ dec (encV [b, l, m, c, i, g, f, t, n, v]) 8 = n ∧ dec (encV [b, l, m, c, i, g, f, t, n, v]) 9 = v := by
  have sm := superOk_small h
  have ds := fun k hk => dec_enc [b, l, m, c, i, g, f, t, n, v] rfl sm k hk
  have e0 : dec (encV [b, l, m, c, i, g, f, t, n, v]) 0 = b := ds 0 (by omega)
  have e1 : dec (encV [b, l, m, c, i, g, f, t, n, v]) 1 = l := ds 1 (by omega)
  have e2 : dec (encV [b, l, m, c, i, g, f, t, n, v]) 2 = m := ds 2 (by omega)
  have e3 : dec (encV [b, l, m, c, i, g, f, t, n, v]) 3 = c := ds 3 (by omega)
  have e4 : dec (encV [b, l, m, c, i, g, f, t, n, v]) 4 = i := ds 4 (by omega)
  have e5 : dec (encV [b, l, m, c, i, g, f, t, n, v]) 5 = g := ds 5 (by omega)
  have e6 : dec (encV [b, l, m, c, i, g, f, t, n, v]) 6 = f := ds 6 (by omega)
  have e7 : dec (encV [b, l, m, c, i, g, f, t, n, v]) 7 = t := ds 7 (by omega)
  have e8 : dec (encV [b, l, m, c, i, g, f, t, n, v]) 8 = n := ds 8 (by omega)
  have e9 : dec (encV [b, l, m, c, i, g, f, t, n, v]) 9 = v := ds 9 (by omega)
  refine ⟨?_, e0, e1, e2, e3, e4, e5, e6, e7, e8, e9⟩
  rw [decOk, e0, e1, e2, e3, e4, e5, e6, e7, e8, e9, h]
  simp

theorem decOk_back {X : ByteArray} (h : decOk X = true) : encV [dec X 0, dec X 1, dec X 2, dec X 3, dec X 4, dec X 5, dec X 6, dec X 7, dec X 8, dec X 9] = X := by
  simp only [decOk, Bool.and_eq_true] at h
  have h2 := h.2
  rw [same_bytes2 _ _ _ Iff.rfl, decide_eq_true_eq] at h2
  exact h2


end Go.Proofs.Ytfgnemddamebaaa
