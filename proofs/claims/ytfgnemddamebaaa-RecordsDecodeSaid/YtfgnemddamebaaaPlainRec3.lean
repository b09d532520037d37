/- Plain facts: a record of bytes. -/
import Derived.Test.YtfgnemddamebaaaRecWalks4
set_option linter.unusedVariables false
set_option linter.unusedSimpArgs false
namespace Go.Proofs.Ytfgnemddamebaaa
open Go Go.RowKit

theorem bytes_same {a b : ByteArray} : (a.toList == b.toList) = true ↔ a = b := by
  rw [← beq_toListBytes, show (a == b) = (a.data == b.data) by cases a; cases b; rfl, beq_iff_eq]
  exact ⟨ByteArray.ext, congrArg _⟩

/-- a home, and a mark, of bytes -/
def homeAt (s : ByteArray) (i : Nat) : Int := getIV s (14 + 2 * (i : Int)) 2
def markAt (s : ByteArray) (n i : Nat) : Bool := getIV s (14 + 2 * (n : Int) + (i : Int)) 1 == 1
/-- how many homes bytes tell -/
def manyAt (s : ByteArray) : Nat := (getIV s 13 1).toNat

/-- the record of bytes: tH, tM: how many homes and marks at most -/
def recOf (s : ByteArray) (tH tM : Nat) : Rc :=
  ⟨getIV s 4 1, getV s 5 8, if getIV s 4 1 = 1 then getIV s 13 2 else 0,
    if getIV s 4 1 = 2 ∨ getIV s 4 1 = 3 then (List.range (min (manyAt s) tH)).map (homeAt s) else [],
    if getIV s 4 1 = 2 then (List.range (min (manyAt s) tM)).map (markAt s (manyAt s)) else [],
    if getIV s 4 1 = 4 then getIV s 13 4 else 0⟩

theorem rec_split {x : Rc} {G R : List (Nat × Int)} {f : Nat × Int} (h : x.body = G ++ f :: R) :
    x.bytes = (recM ++ fldB [(1, x.k), (8, x.q)] ++ fldB G) ++ leBytes f.1 f.2.toNat ++ (fldB R ++ List.replicate (124 - x.many) 0) := by
  rw [Rc.bytes, Rc.fs, fldB_cons, fldB_cons, h, fldB_append, fldB_cons, fldB_cons, fldB_cons, fldB_nil]
  simp only [List.append_assoc, List.append_nil]

theorem rec_field {x : Rc} {G R : List (Nat × Int)} {f : Nat × Int} (h : x.body = G ++ f :: R) (hf : fldOk f) (h2 : f.2 ≤ 9223372036854775807) (a m : Int) (ha : a = ((13 + (fldB G).length : Nat) : Int)) (hm : m = (f.1 : Nat)) :
    getIV (tx x.bytes) a m = f.2 :=
  (get_at (recM ++ fldB [(1, x.k), (8, x.q)] ++ fldB G) _ f.1 f.2 (rec_split h) (by rw [ha, List.length_append, rhead_len]) hm hf.1 hf.2.1 hf.2.2 h2).2

theorem rec_kind {x : Rc} (h : x.ok = true) (hf : x.fit) : getIV (tx x.bytes) 4 1 = x.k := by
  have ok := Rc.fs_ok h hf (1, x.k) (by simp [Rc.fs])
  have e1 : (256 : Nat) ^ 1 = 256 := by decide
  have h3 := ok.2.2
  simp only [e1] at h3
  refine (get_at recM (leBytes 8 x.q.toNat ++ fldB x.body ++ List.replicate (124 - x.many) 0) 1 x.k ?_ rfl rfl ok.1 ok.2.1 ok.2.2 (by omega)).2
  rw [Rc.bytes, Rc.fs, fldB_cons, fldB_cons]
  simp only [List.append_assoc]

theorem rec_seq {x : Rc} (h : x.ok = true) (hf : x.fit) : (getV (tx x.bytes) 5 8 : Int) = x.q := by
  have ok := Rc.fs_ok h hf (8, x.q) (by simp [Rc.fs])
  have := fld_get recM x.fs (List.replicate (124 - x.many) 0) 1 (by simp [Rc.fs]) (by simpa [Rc.fs] using ok)
  have e1 : (fldB (x.fs.take 1)).length = 1 := by simp [Rc.fs, fldB, leBytes_length]
  rw [e1] at this
  have e2 : x.fs[1]'(by simp [Rc.fs]) = (8, x.q) := rfl
  rw [e2] at this
  have e3 : recM ++ fldB x.fs ++ List.replicate (124 - x.many) 0 = x.bytes := rfl
  rw [e3] at this
  have e4 : ((recM.length + 1 : Nat) : Int) = 5 := rfl
  rw [e4] at this
  have t2 : fits (tx x.bytes).size 5 8 = true ∧ ((getL x.bytes 5 8 : Nat) : Int) = x.q := this
  rw [getV, if_pos t2.1, tx_list]
  exact t2.2

theorem recOf_bytes {x : Rc} (h : x.ok = true) (hf : x.fit) (tH tM : Nat) (hH : 28 ≤ tH) (hM : x.k = 2 → x.ms.length ≤ tM) : recOf (tx x.bytes) tH tM = x := by
  have hk := rec_kind h hf
  have hq := rec_seq h hf
  have HOK : ∀ f ∈ x.body, fldOk f := fun f hff => Rc.fs_ok h hf f (by simp only [Rc.fs, List.mem_cons]; exact .inr (.inr hff))
  have e2 : (256 : Nat) ^ 2 = 65536 := by decide
  rcases x.ok_iff.1 h with ⟨a, b1, b2, c, d, e⟩ | ⟨a, b, c, r, n1, n2, hm⟩ | ⟨a, b, c, r, n1, n2, hm⟩ | ⟨a, b, d, e⟩
  · have hb : x.body = [] ++ (2, x.at_) :: [] := by rw [Rc.body, if_pos a]; rfl
    have f1 := rec_field hb (HOK _ (by rw [hb]; simp)) (by show x.at_ ≤ _; omega) 13 2 (by simp [fldB]) rfl
    apply Rc.ext
    · exact hk
    · exact hq
    · show (if _ then _ else _) = _
      rw [hk, if_pos a]; exact f1
    · show (if _ then _ else _) = _
      rw [hk, if_neg (by omega), d]
    · show (if _ then _ else _) = _
      rw [hk, if_neg (by omega), e]
    · show (if _ then _ else _) = _
      rw [hk, if_neg (by omega), c]
  · have hb : x.body = (1, (x.hs.length : Int)) :: (x.hs.map (fun z => (2, z)) ++ x.ms.map (fun b => (1, pinI b))) := by rw [Rc.body, if_neg (by omega), if_neg (by omega)]
    have hn := rec_field (G := []) hb (HOK _ (by rw [hb]; simp)) (by show (x.hs.length : Int) ≤ _; omega) 13 1 (by simp [fldB]) rfl
    have hmany : manyAt (tx x.bytes) = x.hs.length := by rw [manyAt, hn]; simp
    have hh : ∀ i (hi : i < x.hs.length), homeAt (tx x.bytes) i = x.hs[i] := by
      intro i hi
      have hs : x.body = rG x i ++ (2, x.hs[i]) :: ((x.hs.drop (i + 1)).map (fun z => (2, z)) ++ x.ms.map (fun b => (1, pinI b))) := by
        rw [hb, rG, List.cons_append]
        congr 1
        have e : x.hs = x.hs.take i ++ x.hs[i] :: x.hs.drop (i + 1) := by rw [List.getElem_cons_drop, List.take_append_drop]
        conv => lhs; rw [e]
        rw [List.map_append, List.map_cons, List.append_assoc, List.cons_append]
      have ok := HOK (2, x.hs[i]) (by rw [hs]; simp)
      have := ok.2.2
      simp only [e2] at this
      exact rec_field hs ok (by show x.hs[i] ≤ _; have := ok.2.1; omega) _ _ (by rw [rG_len x i (by omega)]; omega) rfl
    have hmk : ∀ i (hi : i < x.ms.length), markAt (tx x.bytes) x.hs.length i = x.ms[i] := by
      intro i hi
      have hs : x.body = rH x i ++ (1, pinI x.ms[i]) :: ((x.ms.drop (i + 1)).map (fun b => (1, pinI b))) := by
        rw [hb, rH, rG, List.take_of_length_le (Nat.le_refl _), List.cons_append, List.cons_append, List.append_assoc]
        congr 2
        have e : x.ms = x.ms.take i ++ x.ms[i] :: x.ms.drop (i + 1) := by rw [List.getElem_cons_drop, List.take_append_drop]
        conv => lhs; rw [e]
        rw [List.map_append, List.map_cons]
      have ok := HOK (1, pinI x.ms[i]) (by rw [hs]; simp)
      have hp : pinI x.ms[i] ≤ 1 := by cases x.ms[i] <;> simp [pinI]
      have := rec_field hs ok (by show pinI x.ms[i] ≤ _; omega) (14 + 2 * (x.hs.length : Int) + (i : Int)) 1 (by rw [rH_len x i (by omega)]; omega) rfl
      rw [markAt, this]
      show (pinI x.ms[i] == 1) = _
      cases x.ms[i] <;> rfl
    apply Rc.ext
    · exact hk
    · exact hq
    · show (if _ then _ else _) = _
      rw [hk, if_neg (by omega), b]
    · show (if _ then _ else _) = _
      rw [hk, if_pos (by omega), hmany, Nat.min_eq_left (by omega)]
      apply List.ext_getElem
      · simp
      · intro i hi hi'
        rw [List.getElem_map, List.getElem_range]
        exact hh i hi'
    · show (if _ then _ else _) = _
      rw [hk, if_pos a, hmany, Nat.min_eq_left (by have := hM a; omega)]
      apply List.ext_getElem
      · simp [hm]
      · intro i hi hi'
        rw [List.getElem_map, List.getElem_range]
        exact hmk i hi'
    · show (if _ then _ else _) = _
      rw [hk, if_neg (by omega), c]
  · have hb : x.body = (1, (x.hs.length : Int)) :: (x.hs.map (fun z => (2, z)) ++ x.ms.map (fun b => (1, pinI b))) := by rw [Rc.body, if_neg (by omega), if_neg (by omega)]
    have hn := rec_field (G := []) hb (HOK _ (by rw [hb]; simp)) (by show (x.hs.length : Int) ≤ _; omega) 13 1 (by simp [fldB]) rfl
    have hmany : manyAt (tx x.bytes) = x.hs.length := by rw [manyAt, hn]; simp
    have hh : ∀ i (hi : i < x.hs.length), homeAt (tx x.bytes) i = x.hs[i] := by
      intro i hi
      have hs : x.body = rG x i ++ (2, x.hs[i]) :: ((x.hs.drop (i + 1)).map (fun z => (2, z)) ++ x.ms.map (fun b => (1, pinI b))) := by
        rw [hb, rG, List.cons_append]
        congr 1
        have e : x.hs = x.hs.take i ++ x.hs[i] :: x.hs.drop (i + 1) := by rw [List.getElem_cons_drop, List.take_append_drop]
        conv => lhs; rw [e]
        rw [List.map_append, List.map_cons, List.append_assoc, List.cons_append]
      have ok := HOK (2, x.hs[i]) (by rw [hs]; simp)
      have := ok.2.2
      simp only [e2] at this
      exact rec_field hs ok (by show x.hs[i] ≤ _; have := ok.2.1; omega) _ _ (by rw [rG_len x i (by omega)]; omega) rfl
    apply Rc.ext
    · exact hk
    · exact hq
    · show (if _ then _ else _) = _
      rw [hk, if_neg (by omega), b]
    · show (if _ then _ else _) = _
      rw [hk, if_pos (by omega), hmany, Nat.min_eq_left (by omega)]
      apply List.ext_getElem
      · simp
      · intro i hi hi'
        rw [List.getElem_map, List.getElem_range]
        exact hh i hi'
    · show (if _ then _ else _) = _
      rw [hk, if_neg (by omega), hm]
    · show (if _ then _ else _) = _
      rw [hk, if_neg (by omega), c]
  · have hb : x.body = [] ++ (4, x.sum) :: [] := by rw [Rc.body, if_neg (by omega), if_pos a]; rfl
    have f1 := rec_field hb (HOK _ (by rw [hb]; simp)) (by show x.sum ≤ _; have := hf.2.2.2; omega) 13 4 (by simp [fldB]) rfl
    apply Rc.ext
    · exact hk
    · exact hq
    · show (if _ then _ else _) = _
      rw [hk, if_neg (by omega), b]
    · show (if _ then _ else _) = _
      rw [hk, if_neg (by omega), d]
    · show (if _ then _ else _) = _
      rw [hk, if_neg (by omega), e]
    · show (if _ then _ else _) = _
      rw [hk, if_pos a]; exact f1

/-- as the program takes it, and as the document's answer does -/
def recP (s : ByteArray) : Rc := recOf s 58 (if 58 ≤ manyAt s then 0 else 115 - 2 * manyAt s)
def recR (s : ByteArray) : Rc := recOf s 40 24
/-- are bytes a record's? -/
def recDec (s : ByteArray) : Bool := (recP s).ok && (tx (recP s).bytes).toList == s.toList

theorem recOf_fit (s : ByteArray) (tH tM : Nat) : (recOf s tH tM).fit := by
  have h1 := getV_le s 5 8
  refine ⟨by show (0 : Int) ≤ (getV s 5 8 : Int); omega, h1, ?_, ?_⟩
  · show 0 ≤ (if getIV s 4 1 = 4 then getIV s 13 4 else 0)
    split
    · exact (getIV_le s 13 4).1
    · decide
  · show (if getIV s 4 1 = 4 then getIV s 13 4 else 0) ≤ 4294967295
    split
    · have := getL_lt s.data.toList 13 4
      have e : (256 : Nat) ^ (4 : Int).toNat = 4294967296 := by decide
      rw [e] at this
      rw [getIV]
      split <;> omega
    · decide

theorem rec_many {x : Rc} (h : x.ok = true) (hf : x.fit) (hk : x.k = 2 ∨ x.k = 3) : manyAt (tx x.bytes) = x.hs.length := by
  have HOK : ∀ f ∈ x.body, fldOk f := fun f hff => Rc.fs_ok h hf f (by simp only [Rc.fs, List.mem_cons]; exact .inr (.inr hff))
  have hb : x.body = [] ++ (1, (x.hs.length : Int)) :: (x.hs.map (fun z => (2, z)) ++ x.ms.map (fun b => (1, pinI b))) := by rw [Rc.body, if_neg (by omega), if_neg (by omega)]; rfl
  have n2 : x.hs.length ≤ 28 := by
    rcases x.ok_iff.1 h with ⟨a, _⟩ | ⟨a, b, c, r, n1, n2, hm⟩ | ⟨a, b, c, r, n1, n2, hm⟩ | ⟨a, _⟩ <;> omega
  have hn := rec_field (G := []) hb (HOK _ (by rw [hb]; simp)) (by show (x.hs.length : Int) ≤ _; omega) 13 1 (by simp [fldB]) rfl
  rw [manyAt, hn]; simp

theorem recP_bytes {x : Rc} (h : x.ok = true) (hf : x.fit) : recP (tx x.bytes) = x := by
  refine recOf_bytes h hf _ _ (by omega) fun hk => ?_
  rw [rec_many h hf (.inl hk)]
  rcases x.ok_iff.1 h with ⟨a, _⟩ | ⟨a, b, c, r, n1, n2, hm⟩ | ⟨a, _⟩ | ⟨a, _⟩
  · omega
  · rw [if_neg (by omega)]; omega
  · omega
  · omega
theorem recR_bytes {x : Rc} (h : x.ok = true) (hf : x.fit) : recR (tx x.bytes) = x := by
  refine recOf_bytes h hf _ _ (by omega) fun hk => ?_
  rcases x.ok_iff.1 h with ⟨a, _⟩ | ⟨a, b, c, r, n1, n2, hm⟩ | ⟨a, _⟩ | ⟨a, _⟩ <;> omega

theorem recDec_iff {s : ByteArray} : recDec s = true ↔ ∃ x : Rc, x.ok = true ∧ x.fit ∧ s = tx x.bytes := by
  rw [recDec, Bool.and_eq_true, bytes_same]
  constructor
  · rintro ⟨a, b⟩; exact ⟨_, a, recOf_fit _ _ _, b.symm⟩
  · rintro ⟨x, a, f, rfl⟩; rw [recP_bytes a f]; exact ⟨a, rfl⟩
theorem recDecR_iff {s : ByteArray} : ((recR s).ok && (tx (recR s).bytes).toList == s.toList) = true ↔ ∃ x : Rc, x.ok = true ∧ x.fit ∧ s = tx x.bytes := by
  rw [Bool.and_eq_true, bytes_same]
  constructor
  · rintro ⟨a, b⟩; exact ⟨_, a, recOf_fit _ _ _, b.symm⟩
  · rintro ⟨x, a, f, rfl⟩; rw [recR_bytes a f]; exact ⟨a, rfl⟩
theorem recDecR (s : ByteArray) : ((recR s).ok && (tx (recR s).bytes).toList == s.toList) = recDec s := by
  rw [Bool.eq_iff_iff, recDecR_iff, recDec_iff]
theorem recR_P {s : ByteArray} (h : recDec s = true) : recR s = recP s := by
  obtain ⟨x, hx, hf, rfl⟩ := recDec_iff.1 h
  rw [recP_bytes hx hf, recR_bytes hx hf]
theorem recDec_bytes {x : Rc} (h : x.ok = true) (hf : x.fit) : recDec (tx x.bytes) = true := recDec_iff.2 ⟨x, h, hf, rfl⟩
theorem recDec_ok {s : ByteArray} (h : recDec s = true) : (recP s).ok = true ∧ tx (recP s).bytes = s := by
  obtain ⟨x, hx, hf, rfl⟩ := recDec_iff.1 h
  rw [recP_bytes hx hf]; exact ⟨hx, rfl⟩
theorem recDec_size {s : ByteArray} (h : recDec s = true) : s.size = 128 := by
  obtain ⟨x, hx, hf, rfl⟩ := recDec_iff.1 h
  rw [tx_size, Rc.bytes_length hx]
theorem recDec_magic {s : ByteArray} (h : recDec s = true) : s.data.toList.take 4 = recM := by
  obtain ⟨x, hx, hf, rfl⟩ := recDec_iff.1 h
  rw [tx_list, Rc.bytes, List.append_assoc]
  exact List.take_left' rfl
/-- what is none: too many numbers for the block -/
theorem recDec_few {s : ByteArray} (h : recDec s = true) (hk : getIV s 4 1 = 2 ∨ getIV s 4 1 = 3) : manyAt s ≤ 28 := by
  obtain ⟨x, hx, hf, rfl⟩ := recDec_iff.1 h
  rw [rec_kind hx hf] at hk
  rw [rec_many hx hf hk]
  rcases x.ok_iff.1 hx with ⟨a, _⟩ | ⟨a, b, c, r, n1, n2, hm⟩ | ⟨a, b, c, r, n1, n2, hm⟩ | ⟨a, _⟩ <;> omega

end Go.Proofs.Ytfgnemddamebaaa
