/- The number of ones of a number of 64 bits, as math/bits reckons it. Plain. -/
import Derived.Laws.BitsAllLaws
namespace Go.Proofs.YtpoepaiaehhloaaDoor
set_option linter.unusedVariables false
/-- The number of ones among the last k bits. -/
def pop : Nat → Nat → Nat
  | 0, _ => 0
  | k + 1, x => x % 2 + pop k (x / 2)
def mask (c : Nat) : Nat → Nat
  | 0 => 0
  | n + 1 => mask c n * 256 + c
def val : List Nat → Nat
  | [] => 0
  | a :: l => val l * 256 + a
def g1 (a : Nat) : Nat := (a / 2 &&& 85) + (a &&& 85)
def g2 (a : Nat) : Nat := (a / 4 &&& 51) + (a &&& 51)
def g3 (a : Nat) : Nat := a / 16 + a % 16
theorem and_cut (a m r n : Nat) (hr : r < 256) (hn : n < 256) : (a * 256 + r) &&& (m * 256 + n) = (a &&& m) * 256 + (r &&& n) := by
  have h1 : ((a * 256 + r) &&& (m * 256 + n)) / 256 = a &&& m := by
    have h := Nat.and_div_two_pow (a := a * 256 + r) (b := m * 256 + n) (n := 8)
    rw [show (2 : Nat) ^ 8 = 256 from rfl] at h
    rw [h, show (a * 256 + r) / 256 = a by omega, show (m * 256 + n) / 256 = m by omega]
  have h2 : ((a * 256 + r) &&& (m * 256 + n)) % 256 = r &&& n := by
    have h := Nat.and_mod_two_pow (a := a * 256 + r) (b := m * 256 + n) (n := 8)
    rw [show (2 : Nat) ^ 8 = 256 from rfl] at h
    rw [h, show (a * 256 + r) % 256 = r by omega, show (m * 256 + n) % 256 = n by omega]
  omega
theorem d1 : ∀ h : Fin 2, ∀ a : Fin 256, (h.val * 128 + a.val / 2) &&& 85 = a.val / 2 &&& 85 := by decide +kernel
theorem d2 : ∀ h : Fin 4, ∀ a : Fin 256, (h.val * 64 + a.val / 4) &&& 51 = a.val / 4 &&& 51 := by decide +kernel
theorem d4 : ∀ a : Fin 256, g1 a.val < 256 ∧ g2 (g1 a.val) < 256 ∧ g2 (g1 a.val) % 16 ≤ 4 ∧ g2 (g1 a.val) / 16 ≤ 4 ∧ g3 (g2 (g1 a.val)) = pop 8 a.val ∧ pop 8 a.val ≤ 8 := by decide +kernel
theorem d5 : ∀ s : Fin 256, s.val &&& 15 = s.val % 16 := by decide +kernel
theorem step1 : ∀ bs : List Nat, (∀ a ∈ bs, a < 256) → (val bs / 2 &&& mask 85 bs.length) + (val bs &&& mask 85 bs.length) = val (bs.map g1)
  | [], _ => by simp [val, mask]
  | a :: l, h => by
    have ha := h a (by simp)
    have ih := step1 l (fun x hx => h x (by simp [hx]))
    have e : (val l * 256 + a) / 2 = (val l / 2) * 256 + (val l % 2 * 128 + a / 2) := by omega
    have hd := d1 ⟨val l % 2, by omega⟩ ⟨a, ha⟩
    simp only at hd
    show ((val l * 256 + a) / 2 &&& (mask 85 l.length * 256 + 85)) + ((val l * 256 + a) &&& (mask 85 l.length * 256 + 85)) = val (l.map g1) * 256 + g1 a
    rw [e, and_cut _ _ _ _ (by omega) (by omega), and_cut _ _ _ _ ha (by omega), hd, ← ih]
    unfold g1
    omega
theorem step2 : ∀ bs : List Nat, (∀ a ∈ bs, a < 256) → (val bs / 4 &&& mask 51 bs.length) + (val bs &&& mask 51 bs.length) = val (bs.map g2)
  | [], _ => by simp [val, mask]
  | a :: l, h => by
    have ha := h a (by simp)
    have ih := step2 l (fun x hx => h x (by simp [hx]))
    have e : (val l * 256 + a) / 4 = (val l / 4) * 256 + (val l % 4 * 64 + a / 4) := by omega
    have hd := d2 ⟨val l % 4, by omega⟩ ⟨a, ha⟩
    simp only at hd
    show ((val l * 256 + a) / 4 &&& (mask 51 l.length * 256 + 51)) + ((val l * 256 + a) &&& (mask 51 l.length * 256 + 51)) = val (l.map g2) * 256 + g2 a
    rw [e, and_cut _ _ _ _ (by omega) (by omega), and_cut _ _ _ _ ha (by omega), hd, ← ih]
    unfold g2
    omega
theorem val16 (l : List Nat) (h : ∀ a ∈ l, a < 256 ∧ a % 16 ≤ 4 ∧ a / 16 ≤ 4) : val l % 16 ≤ 4 := by
  cases l with
  | nil => simp [val]
  | cons a l => have := h a (by simp); show (val l * 256 + a) % 16 ≤ 4; omega
theorem step3 : ∀ bs : List Nat, (∀ a ∈ bs, a < 256 ∧ a % 16 ≤ 4 ∧ a / 16 ≤ 4) → ((val bs / 16 + val bs) &&& mask 15 bs.length) = val (bs.map g3)
  | [], _ => by simp [val, mask]
  | a :: l, h => by
    have ha := h a (by simp)
    have ih := step3 l (fun x hx => h x (by simp [hx]))
    have h16 := val16 l (fun x hx => h x (by simp [hx]))
    have e : (val l * 256 + a) / 16 + (val l * 256 + a) = (val l / 16 + val l) * 256 + (val l % 16 * 16 + a / 16 + a) := by omega
    have hd := d5 ⟨val l % 16 * 16 + a / 16 + a, by omega⟩
    simp only at hd
    show ((val l * 256 + a) / 16 + (val l * 256 + a)) &&& (mask 15 l.length * 256 + 15) = val (l.map g3) * 256 + g3 a
    rw [e, and_cut _ _ _ _ (by omega) (by omega), hd, ← ih]
    unfold g3
    omega
/-- The eight bytes of a number. -/
def bytes8 (x : Nat) : List Nat := [x % 256, x / 256 % 256, x / 65536 % 256, x / 16777216 % 256, x / 4294967296 % 256, x / 1099511627776 % 256, x / 281474976710656 % 256, x / 72057594037927936 % 256]
theorem val_bytes {x : Nat} (h : x < 18446744073709551616) : val (bytes8 x) = x := by
  simp only [bytes8, val]
  omega
theorem pop_add : ∀ j k x, pop (j + k) x = pop j (x % 2 ^ j) + pop k (x / 2 ^ j)
  | 0, k, x => by simp [pop]
  | j + 1, k, x => by
    rw [show j + 1 + k = (j + k) + 1 by omega]
    show x % 2 + pop (j + k) (x / 2) = (x % 2 ^ (j + 1) % 2 + pop j (x % 2 ^ (j + 1) / 2)) + pop k (x / 2 ^ (j + 1))
    have h1 : x % 2 ^ (j + 1) % 2 = x % 2 := by rw [Nat.pow_succ, Nat.mul_comm, Nat.mod_mul_right_mod]
    have h2 : x % 2 ^ (j + 1) / 2 = x / 2 % 2 ^ j := by rw [Nat.pow_succ, Nat.mul_comm, Nat.mod_mul_right_div_self]
    have h3 : x / 2 ^ (j + 1) = x / 2 / 2 ^ j := by rw [Nat.div_div_eq_div_mul, Nat.pow_succ, Nat.mul_comm]
    rw [pop_add j k (x / 2), h1, h2, h3]
    omega
theorem pop_bytes (x : Nat) : pop 64 x = pop 8 (x % 256) + (pop 8 (x / 256 % 256) + (pop 8 (x / 65536 % 256) + (pop 8 (x / 16777216 % 256) + (pop 8 (x / 4294967296 % 256) + (pop 8 (x / 1099511627776 % 256) + (pop 8 (x / 281474976710656 % 256) + pop 8 (x / 72057594037927936 % 256))))))) := by
  have h := fun k y => pop_add 8 k y
  simp only [show (2 : Nat) ^ 8 = 256 from rfl] at h
  rw [show (64 : Nat) = 8 + (8 + (8 + (8 + (8 + (8 + (8 + (8 + 0))))))) from rfl]
  simp only [h, Nat.div_div_eq_div_mul, Nat.reduceMul]
  simp [pop]
theorem sum4 (p0 p1 p2 p3 p4 p5 p6 p7 : Nat) (c0 : p0 ≤ 8) (c1 : p1 ≤ 8) (c2 : p2 ≤ 8) (c3 : p3 ≤ 8) (c4 : p4 ≤ 8) (c5 : p5 ≤ 8) (c6 : p6 ≤ 8) (c7 : p7 ≤ 8) : ∃ Z, (((((((((0 * 256 + p7) * 256 + p6) * 256 + p5) * 256 + p4) * 256 + p3) * 256 + p2) * 256 + p1) * 256 + p0)) + (((((((((0 * 256 + p7) * 256 + p6) * 256 + p5) * 256 + p4) * 256 + p3) * 256 + p2) * 256 + p1) * 256 + p0)) / 256 = Z ∧
    Z = (p0 + p1) + 65536 * (((p2 + p3) + 65536 * ((p4 + p5) + 65536 * (p6 + p7)))) + 256 * ((p1 + p2) + 65536 * ((p3 + p4) + 65536 * ((p5 + p6) + 65536 * p7))) := by
  refine ⟨_, rfl, ?_⟩
  have h : (((((((((0 * 256 + p7) * 256 + p6) * 256 + p5) * 256 + p4) * 256 + p3) * 256 + p2) * 256 + p1) * 256 + p0)) / 256 = ((((((0 * 256 + p7) * 256 + p6) * 256 + p5) * 256 + p4) * 256 + p3) * 256 + p2) * 256 + p1 := by
    rw [Nat.add_comm, Nat.add_mul_div_right _ _ (by omega), Nat.div_eq_of_lt (by omega), Nat.zero_add]
  rw [h]
  omega
/-- Words of two bytes. -/
theorem sum5 (q0 q1 q2 q3 r0 r1 r2 r3 : Nat) (c0 : q0 ≤ 16) (c1 : q1 ≤ 16) (c2 : q2 ≤ 16) (c3 : q3 ≤ 16) (d0 : r0 ≤ 16) (d1 : r1 ≤ 16) (d2 : r2 ≤ 16) (d3 : r3 ≤ 16) (Z : Nat) (hZ : Z = q0 + 65536 * (q1 + 65536 * (q2 + 65536 * q3)) + 256 * (r0 + 65536 * (r1 + 65536 * (r2 + 65536 * r3)))) :
    Z + Z / 65536 < 9223372036854775808 ∧ Z < 9223372036854775808 ∧ (Z + Z / 65536 + (Z + Z / 65536) / 4294967296) < 9223372036854775808 ∧ (Z + Z / 65536 + (Z + Z / 65536) / 4294967296) % 128 = q0 + q1 + q2 + q3 := by
  have h : Z / 65536 = q1 + 65536 * (q2 + 65536 * q3) + 256 * (r1 + 65536 * (r2 + 65536 * r3)) := by
    have e : Z = (q0 + 256 * r0) + (q1 + 65536 * (q2 + 65536 * q3) + 256 * (r1 + 65536 * (r2 + 65536 * r3))) * 65536 := by rw [hZ]; omega
    rw [e, Nat.add_mul_div_right _ _ (by omega), Nat.div_eq_of_lt (by omega), Nat.zero_add]
  rw [h]
  obtain ⟨V, hV⟩ : ∃ V, Z + (q1 + 65536 * (q2 + 65536 * q3) + 256 * (r1 + 65536 * (r2 + 65536 * r3))) = V := ⟨_, rfl⟩
  have e2 : V = (q0 + q1 + 65536 * (q1 + q2) + 256 * (r0 + r1 + 65536 * (r1 + r2))) + (q2 + q3 + 65536 * q3 + 256 * (r2 + r3 + 65536 * r3)) * 4294967296 := by rw [← hV, hZ]; omega
  have h2 : V / 4294967296 = q2 + q3 + 65536 * q3 + 256 * (r2 + r3 + 65536 * r3) := by
    rw [e2, Nat.add_mul_div_right _ _ (by omega), Nat.div_eq_of_lt (by omega), Nat.zero_add]
  rw [hV, h2]
  have b1 : V < 9223372036854775808 := by rw [e2]; omega
  have b2 : Z < 9223372036854775808 := by omega
  refine ⟨b1, b2, by omega, ?_⟩
  have e3 : V + (q2 + q3 + 65536 * q3 + 256 * (r2 + r3 + 65536 * r3)) = (q0 + q1 + q2 + q3) + 128 * (512 * (q1 + q2 + q3) + 2 * (r0 + r1 + r2 + r3 + 65536 * (r1 + r2 + r3)) + (q2 + q3 + 65536 * q3 + 256 * (r2 + r3 + 65536 * r3)) * 33554432) := by rw [e2]; omega
  rw [e3, Nat.add_mul_mod_self_left, Nat.mod_eq_of_lt (by omega)]
/-- The steps of OnesCount64. -/
theorem ones_steps {x : Nat} (hx : x < 18446744073709551616) : ∃ y1 y2 y3 : Nat, (x / 2 &&& 6148914691236517205) + (x &&& 6148914691236517205) = y1 ∧ (y1 / 4 &&& 3689348814741910323) + (y1 &&& 3689348814741910323) = y2 ∧ ((y2 / 16 + y2) &&& 1085102592571150095) = y3 ∧
    y1 < 18446744073709551616 ∧ y2 < 9223372036854775808 ∧ y3 + y3 / 256 < 18446744073709551616 ∧ y3 + y3 / 256 + (y3 + y3 / 256) / 65536 < 18446744073709551616 ∧ y3 + y3 / 256 + (y3 + y3 / 256) / 65536 + (y3 + y3 / 256 + (y3 + y3 / 256) / 65536) / 4294967296 < 9223372036854775808 ∧
    (y3 + y3 / 256 + (y3 + y3 / 256) / 65536 + (y3 + y3 / 256 + (y3 + y3 / 256) / 65536) / 4294967296) % 128 = pop 64 x := by
  have hb : ∀ a ∈ bytes8 x, a < 256 := by
    intro a ha
    simp only [bytes8, List.mem_cons, List.not_mem_nil, or_false] at ha
    omega
  have hd : ∀ a ∈ bytes8 x, g1 a < 256 ∧ g2 (g1 a) < 256 ∧ g2 (g1 a) % 16 ≤ 4 ∧ g2 (g1 a) / 16 ≤ 4 ∧ g3 (g2 (g1 a)) = pop 8 a ∧ pop 8 a ≤ 8 := fun a ha => d4 ⟨a, hb a ha⟩
  have s1 := step1 (bytes8 x) hb
  have s2 := step2 ((bytes8 x).map g1) (fun a ha => by obtain ⟨b, hb', rfl⟩ := List.mem_map.1 ha; exact (hd b hb').1)
  have s3 := step3 (((bytes8 x).map g1).map g2) (fun a ha => by
    obtain ⟨b, hb', rfl⟩ := List.mem_map.1 ha
    obtain ⟨c, hc, rfl⟩ := List.mem_map.1 hb'
    obtain ⟨-, h2, h3, h4, -⟩ := hd c hc
    exact ⟨h2, h3, h4⟩)
  have l1 : mask 85 (bytes8 x).length = 6148914691236517205 := by show mask 85 8 = _; decide +kernel
  have l2 : mask 51 ((bytes8 x).map g1).length = 3689348814741910323 := by show mask 51 8 = _; decide +kernel
  have l3 : mask 15 (((bytes8 x).map g1).map g2).length = 1085102592571150095 := by show mask 15 8 = _; decide +kernel
  rw [l1, val_bytes hx] at s1
  rw [l2] at s2
  rw [l3] at s3
  refine ⟨_, _, _, s1, s2, s3, ?_⟩
  have hp := pop_bytes x
  have e3 : (((bytes8 x).map g1).map g2).map g3 = (bytes8 x).map (pop 8) := by
    simp only [List.map_map]
    exact List.map_congr_left (fun a ha => (hd a ha).2.2.2.2.1)
  rw [e3]
  have q1 : ∀ a ∈ bytes8 x, g1 a < 256 := fun a ha => (hd a ha).1
  have q2 : ∀ a ∈ bytes8 x, g2 (g1 a) ≤ 68 := fun a ha => by obtain ⟨-, h2, h3, h4, -⟩ := hd a ha; omega
  have q3 : ∀ a ∈ bytes8 x, pop 8 a ≤ 8 := fun a ha => (hd a ha).2.2.2.2.2
  simp only [bytes8, List.mem_cons, List.not_mem_nil, or_false, forall_eq_or_imp, forall_eq] at q1 q2 q3
  obtain ⟨a0, a1, a2, a3, a4, a5, a6, a7⟩ := q1
  obtain ⟨b0, b1, b2, b3, b4, b5, b6, b7⟩ := q2
  obtain ⟨c0, c1, c2, c3, c4, c5, c6, c7⟩ := q3
  clear hb hd s1 s2 s3 e3 l1 l2 l3
  have u1 : val (List.map g1 (bytes8 x)) < 18446744073709551616 := by
    simp only [bytes8, List.map_cons, List.map_nil, val]
    clear b0 b1 b2 b3 b4 b5 b6 b7 c0 c1 c2 c3 c4 c5 c6 c7 hp hx
    omega
  have u2 : val (List.map g2 (List.map g1 (bytes8 x))) < 9223372036854775808 := by
    simp only [bytes8, List.map_cons, List.map_nil, val]
    clear a0 a1 a2 a3 a4 a5 a6 a7 c0 c1 c2 c3 c4 c5 c6 c7 hp hx u1
    omega
  refine ⟨u1, u2, ?_⟩
  rw [hp]
  clear a0 a1 a2 a3 a4 a5 a6 a7 b0 b1 b2 b3 b4 b5 b6 b7 u1 u2 hp
  simp only [bytes8, List.map_cons, List.map_nil, val]
  generalize pop 8 (x % 256) = p0 at *
  generalize pop 8 (x / 256 % 256) = p1 at *
  generalize pop 8 (x / 65536 % 256) = p2 at *
  generalize pop 8 (x / 16777216 % 256) = p3 at *
  generalize pop 8 (x / 4294967296 % 256) = p4 at *
  generalize pop 8 (x / 1099511627776 % 256) = p5 at *
  generalize pop 8 (x / 281474976710656 % 256) = p6 at *
  generalize pop 8 (x / 72057594037927936 % 256) = p7 at *
  clear hx
  obtain ⟨Z, e, hZ⟩ := sum4 p0 p1 p2 p3 p4 p5 p6 p7 c0 c1 c2 c3 c4 c5 c6 c7
  rw [e]
  obtain ⟨z1, z2, z3, z4⟩ := sum5 (p0 + p1) (p2 + p3) (p4 + p5) (p6 + p7) (p1 + p2) (p3 + p4) (p5 + p6) p7 (by omega) (by omega) (by omega) (by omega) (by omega) (by omega) (by omega) (by omega) Z hZ
  clear hZ e
  exact ⟨by omega, by omega, z3, by rw [z4]; omega⟩
end Go.Proofs.YtpoepaiaehhloaaDoor
