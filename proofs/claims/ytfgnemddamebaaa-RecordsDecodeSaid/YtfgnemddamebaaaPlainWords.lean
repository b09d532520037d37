/- Plain facts on numbers in texts (little end first): no program in sight. -/
namespace Go.Proofs.Ytfgnemddamebaaa

/-- the number that bytes say, the least one first -/
def leVal : List UInt8 → Nat
  | [] => 0
  | b :: t => b.toNat + 256 * leVal t

/-- the bytes of a number, the least one first -/
def leBytes : Nat → Nat → List UInt8
  | 0, _ => []
  | n + 1, v => UInt8.ofNat (v % 256) :: leBytes n (v / 256)

def okSize (n : Int) : Bool := n == 1 || n == 2 || n == 4 || n == 8
def fits (len : Nat) (a size : Int) : Bool := okSize size && (decide (0 ≤ a) && decide (a ≤ len - size))

theorem okSize_or {n : Int} (h : okSize n = true) : n = 1 ∨ n = 2 ∨ n = 4 ∨ n = 8 := by
  simpa [okSize, or_assoc] using h

theorem fits_iff {len : Nat} {a n : Int} : fits len a n = true ↔ (n = 1 ∨ n = 2 ∨ n = 4 ∨ n = 8) ∧ 0 ≤ a ∧ a + n ≤ len := by
  constructor
  · intro h
    simp only [fits, Bool.and_eq_true, decide_eq_true_eq] at h
    exact ⟨okSize_or h.1, h.2.1, by omega⟩
  · rintro ⟨h1, h2, h3⟩
    have : okSize n = true := by rcases h1 with rfl | rfl | rfl | rfl <;> rfl
    simp only [fits, this, Bool.true_and, Bool.and_eq_true, decide_eq_true_eq]
    exact ⟨h2, by omega⟩

theorem leVal_lt (l : List UInt8) : leVal l < 256 ^ l.length := by
  induction l with
  | nil => simp [leVal]
  | cons b t ih =>
    have hb : b.toNat < 256 := UInt8.toNat_lt b
    have : 256 ^ (t.length + 1) = 256 * 256 ^ t.length := by rw [Nat.pow_succ, Nat.mul_comm]
    simp only [leVal, List.length_cons, this]
    omega

theorem leVal_append (l m : List UInt8) : leVal (l ++ m) = leVal l + 256 ^ l.length * leVal m := by
  induction l with
  | nil => simp [leVal]
  | cons b t ih =>
    have : 256 ^ (t.length + 1) = 256 * 256 ^ t.length := by rw [Nat.pow_succ, Nat.mul_comm]
    simp only [List.cons_append, leVal, ih, List.length_cons, this, Nat.mul_add, Nat.mul_assoc, Nat.add_assoc]

theorem leBytes_length (n v : Nat) : (leBytes n v).length = n := by
  induction n generalizing v with
  | zero => rfl
  | succ n ih => simp [leBytes, ih]

theorem leVal_leBytes (n v : Nat) (h : v < 256 ^ n) : leVal (leBytes n v) = v := by
  induction n generalizing v with
  | zero => simp at h; simp [leBytes, leVal, h]
  | succ n ih =>
    have : 256 ^ (n + 1) = 256 * 256 ^ n := by rw [Nat.pow_succ, Nat.mul_comm]
    rw [this] at h
    have h' : v / 256 < 256 ^ n := Nat.div_lt_of_lt_mul h
    simp only [leBytes, leVal, ih _ h']
    have : (UInt8.ofNat (v % 256)).toNat = v % 256 := by simp
    omega

theorem leBytes_leVal (l : List UInt8) : leBytes l.length (leVal l) = l := by
  induction l with
  | nil => rfl
  | cons b t ih =>
    have hb : b.toNat < 256 := UInt8.toNat_lt b
    have h1 : (b.toNat + 256 * leVal t) % 256 = b.toNat := by omega
    have h2 : (b.toNat + 256 * leVal t) / 256 = leVal t := by omega
    simp [leBytes, leVal, h1, h2, ih]

theorem leBytes_snoc (n v : Nat) : leBytes (n + 1) v = leBytes n v ++ [UInt8.ofNat (v / 256 ^ n % 256)] := by
  induction n generalizing v with
  | zero => simp [leBytes]
  | succ n ih =>
    have e : v / 256 / 256 ^ n = v / 256 ^ (n + 1) := by rw [Nat.div_div_eq_div_mul, Nat.pow_succ, Nat.mul_comm]
    rw [leBytes, ih (v / 256), e]
    rfl

theorem leBytes_mod (n v : Nat) : leBytes n (v % 256 ^ n) = leBytes n v := by
  induction n generalizing v with
  | zero => rfl
  | succ n ih =>
    have e : 256 ^ (n + 1) = 256 * 256 ^ n := by rw [Nat.pow_succ, Nat.mul_comm]
    have h1 : v % 256 ^ (n + 1) % 256 = v % 256 := by rw [e, Nat.mod_mul_right_mod]
    have h2 : v % 256 ^ (n + 1) / 256 = v / 256 % 256 ^ n := by rw [e, Nat.mod_mul_right_div_self]
    simp only [leBytes, h1, h2, ih]

/-- the number at a place -/
def getL (l : List UInt8) (a n : Int) : Nat := leVal ((l.drop a.toNat).take n.toNat)
/-- the text with a number at a place -/
def putL (l : List UInt8) (a n : Int) (v : Nat) : List UInt8 := l.take a.toNat ++ leBytes n.toNat v ++ l.drop (a.toNat + n.toNat)

theorem getL_lt (l : List UInt8) (a n : Int) : getL l a n < 256 ^ n.toNat :=
  Nat.lt_of_lt_of_le (leVal_lt _) (Nat.pow_le_pow_right (by decide) (by simp; omega))

theorem pow_le_of_size {n : Int} (h : okSize n = true) : 256 ^ n.toNat ≤ 18446744073709551616 := by
  rcases okSize_or h with rfl | rfl | rfl | rfl <;> decide

theorem putL_length {l : List UInt8} {a n : Int} {v : Nat} (h : fits l.length a n = true) : (putL l a n v).length = l.length := by
  obtain ⟨h1, h2, h3⟩ := fits_iff.1 h
  simp [putL, leBytes_length]; omega

theorem putL_take {l : List UInt8} {a n : Int} {v : Nat} (h : fits l.length a n = true) : (putL l a n v).take a.toNat = l.take a.toNat := by
  obtain ⟨h1, h2, h3⟩ := fits_iff.1 h
  have : (l.take a.toNat).length = a.toNat := by simp; omega
  rw [putL, List.append_assoc, List.take_append_of_le_length (by omega), List.take_of_length_le (by omega)]

theorem putL_drop {l : List UInt8} {a n : Int} {v : Nat} (h : fits l.length a n = true) : (putL l a n v).drop (a.toNat + n.toNat) = l.drop (a.toNat + n.toNat) := by
  obtain ⟨h1, h2, h3⟩ := fits_iff.1 h
  have : (l.take a.toNat ++ leBytes n.toNat v).length = a.toNat + n.toNat := by simp [leBytes_length]; omega
  rw [putL, List.drop_append_of_le_length (by omega), List.drop_of_length_le (by omega), List.nil_append]

theorem putL_mid {l : List UInt8} {a n : Int} {v : Nat} (h : fits l.length a n = true) : ((putL l a n v).drop a.toNat).take n.toNat = leBytes n.toNat v := by
  obtain ⟨h1, h2, h3⟩ := fits_iff.1 h
  have e1 : (l.take a.toNat).length = a.toNat := by simp; omega
  have e2 : (leBytes n.toNat v).length = n.toNat := leBytes_length _ _
  rw [putL, List.append_assoc, List.drop_append_of_le_length (by omega), List.drop_of_length_le (by omega), List.nil_append,
    List.take_append_of_le_length (by omega), List.take_of_length_le (by omega)]

theorem getL_putL {l : List UInt8} {a n : Int} {v : Nat} (h : fits l.length a n = true) (hv : v < 256 ^ n.toNat) : getL (putL l a n v) a n = v := by
  rw [getL, putL_mid h, leVal_leBytes _ _ hv]

theorem putL_getL {l : List UInt8} {a n : Int} (h : fits l.length a n = true) : putL l a n (getL l a n) = l := by
  obtain ⟨h1, h2, h3⟩ := fits_iff.1 h
  have e : ((l.drop a.toNat).take n.toNat).length = n.toNat := by simp; omega
  have e1 : leBytes n.toNat (leVal ((l.drop a.toNat).take n.toNat)) = (l.drop a.toNat).take n.toNat := by
    have := leBytes_leVal ((l.drop a.toNat).take n.toNat)
    rw [e] at this; exact this
  rw [getL, putL, e1, List.append_assoc, ← List.drop_drop, List.take_append_drop, List.take_append_drop]

theorem getL_two (l : List UInt8) (a : Int) (h : Nat) (h0 : 0 ≤ a) (hl : a + 2 * h ≤ l.length) :
    getL l a (2 * (h : Int)) = getL l a h + 256 ^ h * getL l (a + h) h := by
  have e1 : (2 * (h : Int)).toNat = h + h := by omega
  have e2 : (a + (h : Int)).toNat = a.toNat + h := by omega
  have e3 : ((h : Int)).toNat = h := by omega
  have e4 : ((l.drop a.toNat).take h).length = h := by simp; omega
  rw [getL, getL, getL, e1, e2, e3, List.take_add, leVal_append, e4, List.drop_drop]

/-- a byte of a text in which a number was put -/
theorem putL_getElem? {l : List UInt8} {a n : Int} {v : Nat} (h : fits l.length a n = true) (i : Nat) :
    (putL l a n v)[i]? = if a.toNat ≤ i ∧ i < a.toNat + n.toNat then (leBytes n.toNat v)[i - a.toNat]? else l[i]? := by
  obtain ⟨h1, h2, h3⟩ := fits_iff.1 h
  have e1 : (l.take a.toNat).length = a.toNat := by simp; omega
  have e2 : (leBytes n.toNat v).length = n.toNat := leBytes_length _ _
  have e3 : (l.take a.toNat ++ leBytes n.toNat v).length = a.toNat + n.toNat := by simp [e2]; omega
  rw [putL]
  by_cases c1 : i < a.toNat
  · rw [if_neg (by omega), List.append_assoc, List.getElem?_append_left (by omega), List.getElem?_take_of_lt c1]
  · by_cases c2 : i < a.toNat + n.toNat
    · rw [if_pos ⟨by omega, c2⟩, List.getElem?_append_left (by omega), List.getElem?_append_right (by omega), e1]
    · rw [if_neg (by omega), List.getElem?_append_right (by omega), e3, List.getElem?_drop]
      congr 1; omega

theorem putL_comm {l : List UInt8} {a n b m : Int} {v u : Nat} (h : fits l.length a n = true) (k : fits l.length b m = true) (hd : a + n ≤ b ∨ b + m ≤ a) :
    putL (putL l a n v) b m u = putL (putL l b m u) a n v := by
  have h' : fits (putL l b m u).length a n = true := by rw [putL_length k]; exact h
  have k' : fits (putL l a n v).length b m = true := by rw [putL_length h]; exact k
  obtain ⟨h1, h2, h3⟩ := fits_iff.1 h
  obtain ⟨k1, k2, k3⟩ := fits_iff.1 k
  apply List.ext_getElem?
  intro i
  rw [putL_getElem? k', putL_getElem? h, putL_getElem? h', putL_getElem? k]
  by_cases c1 : a.toNat ≤ i ∧ i < a.toNat + n.toNat
  · rw [if_neg (by omega), if_pos c1, if_pos c1]
  · rw [if_neg c1, if_neg c1]

/-- one byte more of the number at a place -/
theorem getL_succ (l : List UInt8) (a : Int) (k : Nat) (h0 : 0 ≤ a) (hl : a + k < l.length) :
    getL l a ((k + 1 : Nat) : Int) = getL l a (k : Int) + 256 ^ k * (l[a.toNat + k]'(by omega)).toNat := by
  have e4 : ((l.drop a.toNat).take k).length = k := by simp; omega
  have e5 : (l.drop a.toNat).take (k + 1) = (l.drop a.toNat).take k ++ [l[a.toNat + k]'(by omega)] := by
    rw [List.take_succ_eq_append_getElem (by simp; omega)]
    simp
  simp only [getL, Int.toNat_natCast, e5, leVal_append, e4, leVal, Nat.mul_zero, Nat.add_zero]

/-- one byte more ahead of the number at a place -/
theorem getL_head (l : List UInt8) (a : Int) (k : Nat) (h0 : 0 ≤ a) (hl : a + k < l.length) :
    getL l a ((k + 1 : Nat) : Int) = (l[a.toNat]'(by omega)).toNat + 256 * getL l (a + 1) (k : Int) := by
  have e : (a + 1).toNat = a.toNat + 1 := by omega
  have e5 : l.drop a.toNat = l[a.toNat]'(by omega) :: l.drop (a.toNat + 1) := List.drop_eq_getElem_cons (by omega)
  simp only [getL, Int.toNat_natCast, e, e5, List.take_succ_cons, leVal]

/-- one byte more put at a place -/
theorem putL_succ (l : List UInt8) (a : Int) (k v : Nat) (hl : a.toNat + k < l.length) :
    putL l a ((k + 1 : Nat) : Int) v = (putL l a (k : Int) v).set (a.toNat + k) (UInt8.ofNat (v / 256 ^ k % 256)) := by
  have e1 : (l.take a.toNat).length = a.toNat := by simp; omega
  have e2 : (leBytes k v).length = k := leBytes_length _ _
  have e3 : (l.take a.toNat ++ leBytes k v).length = a.toNat + k := by simp [e2]; omega
  have e4 : l.drop (a.toNat + k) = l[a.toNat + k]'hl :: l.drop (a.toNat + (k + 1)) := List.drop_eq_getElem_cons hl
  simp only [putL, Int.toNat_natCast]
  rw [List.set_append_right _ _ (by omega), e3, Nat.sub_self, e4, List.set_cons_zero, leBytes_snoc, ← List.append_assoc, List.append_assoc]
  rfl

theorem putL_zero (l : List UInt8) (a : Int) (v : Nat) : putL l a 0 v = l := by
  simp [putL, leBytes]

theorem putL_len (l : List UInt8) (a : Int) (k v : Nat) (hl : a.toNat + k ≤ l.length) : (putL l a (k : Int) v).length = l.length := by
  simp [putL, leBytes_length]; omega

/-- a byte of a number in the walk's words -/
theorem byte_of (v : Int) (k : Nat) (h0 : 0 ≤ v) : (v / 2 ^ (8 * k)) % 256 = ((UInt8.ofNat (v.toNat / 256 ^ k % 256)).toNat : Int) := by
  obtain ⟨u, rfl⟩ := Int.eq_ofNat_of_zero_le h0
  have hp : (2 : Int) ^ (8 * k) = ((256 ^ k : Nat) : Int) := by rw [Int.pow_mul]; simp
  have e : (UInt8.ofNat (u / 256 ^ k % 256)).toNat = u / 256 ^ k % 256 := by simp
  rw [hp, Int.toNat_natCast, e]
  omega

/-- whether a number has room -/
theorem room_iff (v n : Int) (h0 : 0 ≤ v) (hn : 0 ≤ n) : v / 2 ^ (8 * n).toNat ≤ 0 ↔ v.toNat < 256 ^ n.toNat := by
  obtain ⟨u, rfl⟩ := Int.eq_ofNat_of_zero_le h0
  obtain ⟨m, rfl⟩ := Int.eq_ofNat_of_zero_le hn
  have e : (8 * (m : Int)).toNat = 8 * m := by omega
  have hp : (2 : Int) ^ (8 * m) = ((256 ^ m : Nat) : Int) := by rw [Int.pow_mul]; simp
  have hpos : 0 < 256 ^ m := Nat.pow_pos (by decide)
  rw [e, hp, Int.toNat_natCast, Int.toNat_natCast, ← Int.natCast_ediv]
  rw [show (0 : Int) = ((0 : Nat) : Int) from rfl, Int.ofNat_le, Nat.le_zero, Nat.div_eq_zero_iff]
  omega

theorem quot_byte (v : Int) (k : Nat) (h0 : 0 ≤ v) : (v / 256 ^ k % 256).toNat = v.toNat / 256 ^ k % 256 := by
  obtain ⟨u, rfl⟩ := Int.eq_ofNat_of_zero_le h0
  have : ((u : Int) / 256 ^ k % 256) = ((u / 256 ^ k % 256 : Nat) : Int) := by simp
  rw [this, Int.toNat_natCast, Int.toNat_natCast]

theorem quot_step (v : Int) (k : Nat) (h0 : 0 ≤ v) : v / 256 ^ k / 256 = v / 256 ^ (k + 1) := by
  obtain ⟨u, rfl⟩ := Int.eq_ofNat_of_zero_le h0
  have e1 : (u : Int) / 256 ^ k / 256 = ((u / 256 ^ k / 256 : Nat) : Int) := by simp
  have e2 : (u : Int) / 256 ^ (k + 1) = ((u / 256 ^ (k + 1) : Nat) : Int) := by simp
  rw [e1, e2, Nat.div_div_eq_div_mul, Nat.pow_succ]

theorem quot_room (v : Int) (k : Nat) (h0 : 0 ≤ v) : v.toNat < 256 ^ k ↔ ¬ 0 < v / 256 ^ k := by
  obtain ⟨u, rfl⟩ := Int.eq_ofNat_of_zero_le h0
  have e : (u : Int) / 256 ^ k = ((u / 256 ^ k : Nat) : Int) := by simp
  have hpos : 0 < 256 ^ k := Nat.pow_pos (by decide)
  rw [e, Int.toNat_natCast]
  have h := @Nat.div_eq_zero_iff u (256 ^ k)
  generalize u / 256 ^ k = x at h ⊢
  omega

end Go.Proofs.Ytfgnemddamebaaa
