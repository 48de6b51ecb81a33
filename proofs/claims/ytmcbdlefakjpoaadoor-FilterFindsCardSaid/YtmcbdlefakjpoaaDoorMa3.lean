/-
  Part 3 of the proof: no statement of its own. No condition but those in each theorem.
-/
import Derived.Test.YtmcbdlefakjpoaaDoorMa2
import Derived.Test.YtmcbdlefakjpoaaDoorProg
import Derived.KernelRfl
import Derived.DeepKeys3
import Derived.MapKept
set_option linter.unusedSimpArgs false
set_option linter.unusedVariables false
set_option linter.unusedSectionVars false
namespace Go.E

theorem u8_nat (m : Nat) : UInt8.ofInt (m : Int) = UInt8.ofNat m := by rw [← UInt8.toNat_inj]; simp [UInt8.ofInt, Int.emod_emod_of_dvd]; omega
theorem u8_self (x : UInt8) : UInt8.ofInt (x.toNat : Int) = x := by rw [u8_nat, UInt8.ofNat_toNat]
theorem u8_toNat (z : Int) : ((UInt8.ofInt z).toNat : Int) = z % 2 ^ 8 := by
  have h0 : 0 ≤ z % 2 ^ 8 := Int.emod_nonneg _ (by decide)
  have h1 : z % 2 ^ 8 < 2 ^ 8 := Int.emod_lt_of_pos _ (by decide)
  simp only [UInt8.ofInt]
  rw [UInt8.toNat_ofNat']
  omega
theorem u8_wrap (z : Int) : IntKind.u8.wrap z = ((UInt8.ofInt z).toNat : Int) := by rw [u8_toNat]; simp [IntKind.wrap, IntKind.bits, IntKind.signed]
theorem u8_sub (x y : Int) : UInt8.ofInt (x - y) = UInt8.ofInt x - UInt8.ofInt y := by
  have := UInt8.ofInt_add (x - y) y
  rw [Int.sub_add_cancel] at this
  rw [this, UInt8.add_sub_cancel]
theorem u8_bv (z : Int) : BitVec.ofInt IntKind.u8.bits z = (UInt8.ofInt z).toBitVec := by
  apply BitVec.eq_of_toInt_eq
  have h := u8_toNat z
  apply congrArg
  apply BitVec.eq_of_toNat_eq
  show (BitVec.ofInt 8 z).toNat = (UInt8.ofInt z).toNat
  rw [BitVec.toNat_ofInt, show ((2 ^ 8 : Nat) : Int) = 2 ^ 8 from rfl]
  omega
theorem u8_and (x y : Int) : UInt8.ofInt (((BitVec.ofInt IntKind.u8.bits x &&& BitVec.ofInt IntKind.u8.bits y).toNat : Nat) : Int) = UInt8.ofInt x &&& UInt8.ofInt y := by rw [u8_bv, u8_bv]; exact u8_self (UInt8.ofInt x &&& UInt8.ofInt y)
theorem u8_or (x y : Int) : UInt8.ofInt (((BitVec.ofInt IntKind.u8.bits x ||| BitVec.ofInt IntKind.u8.bits y).toNat : Nat) : Int) = UInt8.ofInt x ||| UInt8.ofInt y := by rw [u8_bv, u8_bv]; exact u8_self (UInt8.ofInt x ||| UInt8.ofInt y)
theorem u8_xor (x y : Int) : UInt8.ofInt (((BitVec.ofInt IntKind.u8.bits x ^^^ BitVec.ofInt IntKind.u8.bits y).toNat : Nat) : Int) = UInt8.ofInt x ^^^ UInt8.ofInt y := by rw [u8_bv, u8_bv]; exact u8_self (UInt8.ofInt x ^^^ UInt8.ofInt y)
theorem u8_andNot (x y : Int) : UInt8.ofInt (((BitVec.ofInt IntKind.u8.bits x &&& ~~~ BitVec.ofInt IntKind.u8.bits y).toNat : Nat) : Int) = UInt8.ofInt x &&& ~~~ UInt8.ofInt y := by rw [u8_bv, u8_bv]; exact u8_self (UInt8.ofInt x &&& ~~~ UInt8.ofInt y)
def u8_shl (x : UInt8) (k : Nat) : UInt8 := if k < 8 then x <<< (UInt8.ofNat k) else 0
def u8_shr (x : UInt8) (k : Nat) : UInt8 := if k < 8 then x >>> (UInt8.ofNat k) else 0
theorem u8_shl_eq (x : UInt8) (k : Nat) : x * UInt8.ofInt (2 ^ (min k IntKind.u8.bits)) = u8_shl x k := by
  unfold u8_shl
  rw [← UInt8.toNat_inj]
  have e : UInt8.ofInt (2 ^ (min k IntKind.u8.bits)) = UInt8.ofNat (2 ^ (min k 8)) := by
    rw [← u8_nat]; simp [IntKind.bits]
  rw [e, UInt8.toNat_mul, UInt8.toNat_ofNat']
  split
  · rename_i h
    rw [Nat.min_eq_left (by omega), UInt8.toNat_shiftLeft, UInt8.toNat_ofNat', Nat.mod_eq_of_lt (show k < 2 ^ 8 from Nat.lt_trans h (by decide)), Nat.mod_eq_of_lt h, Nat.shiftLeft_eq, Nat.mul_mod, Nat.mod_mod, ← Nat.mul_mod]
  · rename_i h
    rw [Nat.min_eq_right (by omega)]
    simp
theorem u8_shr_eq (x : UInt8) (k : Nat) : ((x.toNat : Int)).fdiv (2 ^ (min k IntKind.u8.bits)) = ((u8_shr x k).toNat : Int) := by
  unfold u8_shr
  have e : ((x.toNat : Int)).fdiv (2 ^ (min k IntKind.u8.bits)) = ((x.toNat / 2 ^ (min k 8) : Nat) : Int) := by
    rw [Int.fdiv_eq_ediv_of_nonneg _ (Int.le_of_lt (Int.pow_pos (by decide)))]
    simp [IntKind.bits]
  rw [e]
  congr 1
  split
  · rename_i h
    rw [Nat.min_eq_left (by omega), UInt8.toNat_shiftRight, UInt8.toNat_ofNat', Nat.mod_eq_of_lt (show k < 2 ^ 8 from Nat.lt_trans h (by decide)), Nat.mod_eq_of_lt h, Nat.shiftRight_eq_div_pow]
  · rename_i h
    rw [Nat.min_eq_right (by omega)]
    have := x.toNat_lt
    simp
    omega
theorem u8_nonneg (x : UInt8) : (0 ≤ (x.toNat : Int)) = True := by simp
theorem u8_eq (x y : UInt8) : ((x.toNat : Int) = (y.toNat : Int)) = (x = y) := by simp [← UInt8.toNat_inj]; omega
theorem u8_lt (x y : UInt8) : ((x.toNat : Int) < (y.toNat : Int)) = (x < y) := by rw [UInt8.lt_iff_toNat_lt]; simp
theorem u8_le (x y : UInt8) : ((x.toNat : Int) ≤ (y.toNat : Int)) = (x ≤ y) := by rw [UInt8.le_iff_toNat_le]; simp
theorem u8_toInt (x : UInt8) : ((x.toNat : Int)).toNat = x.toNat := by simp

theorem u16_nat (m : Nat) : UInt16.ofInt (m : Int) = UInt16.ofNat m := by rw [← UInt16.toNat_inj]; simp [UInt16.ofInt, Int.emod_emod_of_dvd]; omega
theorem u16_self (x : UInt16) : UInt16.ofInt (x.toNat : Int) = x := by rw [u16_nat, UInt16.ofNat_toNat]
theorem u16_toNat (z : Int) : ((UInt16.ofInt z).toNat : Int) = z % 2 ^ 16 := by
  have h0 : 0 ≤ z % 2 ^ 16 := Int.emod_nonneg _ (by decide)
  have h1 : z % 2 ^ 16 < 2 ^ 16 := Int.emod_lt_of_pos _ (by decide)
  simp only [UInt16.ofInt]
  rw [UInt16.toNat_ofNat']
  omega
theorem u16_wrap (z : Int) : IntKind.u16.wrap z = ((UInt16.ofInt z).toNat : Int) := by rw [u16_toNat]; simp [IntKind.wrap, IntKind.bits, IntKind.signed]
theorem u16_sub (x y : Int) : UInt16.ofInt (x - y) = UInt16.ofInt x - UInt16.ofInt y := by
  have := UInt16.ofInt_add (x - y) y
  rw [Int.sub_add_cancel] at this
  rw [this, UInt16.add_sub_cancel]
theorem u16_bv (z : Int) : BitVec.ofInt IntKind.u16.bits z = (UInt16.ofInt z).toBitVec := by
  apply BitVec.eq_of_toInt_eq
  have h := u16_toNat z
  apply congrArg
  apply BitVec.eq_of_toNat_eq
  show (BitVec.ofInt 16 z).toNat = (UInt16.ofInt z).toNat
  rw [BitVec.toNat_ofInt, show ((2 ^ 16 : Nat) : Int) = 2 ^ 16 from rfl]
  omega
theorem u16_and (x y : Int) : UInt16.ofInt (((BitVec.ofInt IntKind.u16.bits x &&& BitVec.ofInt IntKind.u16.bits y).toNat : Nat) : Int) = UInt16.ofInt x &&& UInt16.ofInt y := by rw [u16_bv, u16_bv]; exact u16_self (UInt16.ofInt x &&& UInt16.ofInt y)
theorem u16_or (x y : Int) : UInt16.ofInt (((BitVec.ofInt IntKind.u16.bits x ||| BitVec.ofInt IntKind.u16.bits y).toNat : Nat) : Int) = UInt16.ofInt x ||| UInt16.ofInt y := by rw [u16_bv, u16_bv]; exact u16_self (UInt16.ofInt x ||| UInt16.ofInt y)
theorem u16_xor (x y : Int) : UInt16.ofInt (((BitVec.ofInt IntKind.u16.bits x ^^^ BitVec.ofInt IntKind.u16.bits y).toNat : Nat) : Int) = UInt16.ofInt x ^^^ UInt16.ofInt y := by rw [u16_bv, u16_bv]; exact u16_self (UInt16.ofInt x ^^^ UInt16.ofInt y)
theorem u16_andNot (x y : Int) : UInt16.ofInt (((BitVec.ofInt IntKind.u16.bits x &&& ~~~ BitVec.ofInt IntKind.u16.bits y).toNat : Nat) : Int) = UInt16.ofInt x &&& ~~~ UInt16.ofInt y := by rw [u16_bv, u16_bv]; exact u16_self (UInt16.ofInt x &&& ~~~ UInt16.ofInt y)
def u16_shl (x : UInt16) (k : Nat) : UInt16 := if k < 16 then x <<< (UInt16.ofNat k) else 0
def u16_shr (x : UInt16) (k : Nat) : UInt16 := if k < 16 then x >>> (UInt16.ofNat k) else 0
theorem u16_shl_eq (x : UInt16) (k : Nat) : x * UInt16.ofInt (2 ^ (min k IntKind.u16.bits)) = u16_shl x k := by
  unfold u16_shl
  rw [← UInt16.toNat_inj]
  have e : UInt16.ofInt (2 ^ (min k IntKind.u16.bits)) = UInt16.ofNat (2 ^ (min k 16)) := by
    rw [← u16_nat]; simp [IntKind.bits]
  rw [e, UInt16.toNat_mul, UInt16.toNat_ofNat']
  split
  · rename_i h
    rw [Nat.min_eq_left (by omega), UInt16.toNat_shiftLeft, UInt16.toNat_ofNat', Nat.mod_eq_of_lt (show k < 2 ^ 16 from Nat.lt_trans h (by decide)), Nat.mod_eq_of_lt h, Nat.shiftLeft_eq, Nat.mul_mod, Nat.mod_mod, ← Nat.mul_mod]
  · rename_i h
    rw [Nat.min_eq_right (by omega)]
    simp
theorem u16_shr_eq (x : UInt16) (k : Nat) : ((x.toNat : Int)).fdiv (2 ^ (min k IntKind.u16.bits)) = ((u16_shr x k).toNat : Int) := by
  unfold u16_shr
  have e : ((x.toNat : Int)).fdiv (2 ^ (min k IntKind.u16.bits)) = ((x.toNat / 2 ^ (min k 16) : Nat) : Int) := by
    rw [Int.fdiv_eq_ediv_of_nonneg _ (Int.le_of_lt (Int.pow_pos (by decide)))]
    simp [IntKind.bits]
  rw [e]
  congr 1
  split
  · rename_i h
    rw [Nat.min_eq_left (by omega), UInt16.toNat_shiftRight, UInt16.toNat_ofNat', Nat.mod_eq_of_lt (show k < 2 ^ 16 from Nat.lt_trans h (by decide)), Nat.mod_eq_of_lt h, Nat.shiftRight_eq_div_pow]
  · rename_i h
    rw [Nat.min_eq_right (by omega)]
    have := x.toNat_lt
    simp
    omega
theorem u16_nonneg (x : UInt16) : (0 ≤ (x.toNat : Int)) = True := by simp
theorem u16_eq (x y : UInt16) : ((x.toNat : Int) = (y.toNat : Int)) = (x = y) := by simp [← UInt16.toNat_inj]; omega
theorem u16_lt (x y : UInt16) : ((x.toNat : Int) < (y.toNat : Int)) = (x < y) := by rw [UInt16.lt_iff_toNat_lt]; simp
theorem u16_le (x y : UInt16) : ((x.toNat : Int) ≤ (y.toNat : Int)) = (x ≤ y) := by rw [UInt16.le_iff_toNat_le]; simp
theorem u16_toInt (x : UInt16) : ((x.toNat : Int)).toNat = x.toNat := by simp

theorem u32_nat (m : Nat) : UInt32.ofInt (m : Int) = UInt32.ofNat m := by rw [← UInt32.toNat_inj]; simp [UInt32.ofInt, Int.emod_emod_of_dvd]; omega
theorem u32_self (x : UInt32) : UInt32.ofInt (x.toNat : Int) = x := by rw [u32_nat, UInt32.ofNat_toNat]
theorem u32_toNat (z : Int) : ((UInt32.ofInt z).toNat : Int) = z % 2 ^ 32 := by
  have h0 : 0 ≤ z % 2 ^ 32 := Int.emod_nonneg _ (by decide)
  have h1 : z % 2 ^ 32 < 2 ^ 32 := Int.emod_lt_of_pos _ (by decide)
  simp only [UInt32.ofInt]
  rw [UInt32.toNat_ofNat']
  omega
theorem u32_wrap (z : Int) : IntKind.u32.wrap z = ((UInt32.ofInt z).toNat : Int) := by rw [u32_toNat]; simp [IntKind.wrap, IntKind.bits, IntKind.signed]
theorem u32_sub (x y : Int) : UInt32.ofInt (x - y) = UInt32.ofInt x - UInt32.ofInt y := by
  have := UInt32.ofInt_add (x - y) y
  rw [Int.sub_add_cancel] at this
  rw [this, UInt32.add_sub_cancel]
theorem u32_bv (z : Int) : BitVec.ofInt IntKind.u32.bits z = (UInt32.ofInt z).toBitVec := by
  apply BitVec.eq_of_toInt_eq
  have h := u32_toNat z
  apply congrArg
  apply BitVec.eq_of_toNat_eq
  show (BitVec.ofInt 32 z).toNat = (UInt32.ofInt z).toNat
  rw [BitVec.toNat_ofInt, show ((2 ^ 32 : Nat) : Int) = 2 ^ 32 from rfl]
  omega
theorem u32_and (x y : Int) : UInt32.ofInt (((BitVec.ofInt IntKind.u32.bits x &&& BitVec.ofInt IntKind.u32.bits y).toNat : Nat) : Int) = UInt32.ofInt x &&& UInt32.ofInt y := by rw [u32_bv, u32_bv]; exact u32_self (UInt32.ofInt x &&& UInt32.ofInt y)
theorem u32_or (x y : Int) : UInt32.ofInt (((BitVec.ofInt IntKind.u32.bits x ||| BitVec.ofInt IntKind.u32.bits y).toNat : Nat) : Int) = UInt32.ofInt x ||| UInt32.ofInt y := by rw [u32_bv, u32_bv]; exact u32_self (UInt32.ofInt x ||| UInt32.ofInt y)
theorem u32_xor (x y : Int) : UInt32.ofInt (((BitVec.ofInt IntKind.u32.bits x ^^^ BitVec.ofInt IntKind.u32.bits y).toNat : Nat) : Int) = UInt32.ofInt x ^^^ UInt32.ofInt y := by rw [u32_bv, u32_bv]; exact u32_self (UInt32.ofInt x ^^^ UInt32.ofInt y)
theorem u32_andNot (x y : Int) : UInt32.ofInt (((BitVec.ofInt IntKind.u32.bits x &&& ~~~ BitVec.ofInt IntKind.u32.bits y).toNat : Nat) : Int) = UInt32.ofInt x &&& ~~~ UInt32.ofInt y := by rw [u32_bv, u32_bv]; exact u32_self (UInt32.ofInt x &&& ~~~ UInt32.ofInt y)
def u32_shl (x : UInt32) (k : Nat) : UInt32 := if k < 32 then x <<< (UInt32.ofNat k) else 0
def u32_shr (x : UInt32) (k : Nat) : UInt32 := if k < 32 then x >>> (UInt32.ofNat k) else 0
theorem u32_shl_eq (x : UInt32) (k : Nat) : x * UInt32.ofInt (2 ^ (min k IntKind.u32.bits)) = u32_shl x k := by
  unfold u32_shl
  rw [← UInt32.toNat_inj]
  have e : UInt32.ofInt (2 ^ (min k IntKind.u32.bits)) = UInt32.ofNat (2 ^ (min k 32)) := by
    rw [← u32_nat]; simp [IntKind.bits]
  rw [e, UInt32.toNat_mul, UInt32.toNat_ofNat']
  split
  · rename_i h
    rw [Nat.min_eq_left (by omega), UInt32.toNat_shiftLeft, UInt32.toNat_ofNat', Nat.mod_eq_of_lt (show k < 2 ^ 32 from Nat.lt_trans h (by decide)), Nat.mod_eq_of_lt h, Nat.shiftLeft_eq, Nat.mul_mod, Nat.mod_mod, ← Nat.mul_mod]
  · rename_i h
    rw [Nat.min_eq_right (by omega)]
    simp
theorem u32_shr_eq (x : UInt32) (k : Nat) : ((x.toNat : Int)).fdiv (2 ^ (min k IntKind.u32.bits)) = ((u32_shr x k).toNat : Int) := by
  unfold u32_shr
  have e : ((x.toNat : Int)).fdiv (2 ^ (min k IntKind.u32.bits)) = ((x.toNat / 2 ^ (min k 32) : Nat) : Int) := by
    rw [Int.fdiv_eq_ediv_of_nonneg _ (Int.le_of_lt (Int.pow_pos (by decide)))]
    simp [IntKind.bits]
  rw [e]
  congr 1
  split
  · rename_i h
    rw [Nat.min_eq_left (by omega), UInt32.toNat_shiftRight, UInt32.toNat_ofNat', Nat.mod_eq_of_lt (show k < 2 ^ 32 from Nat.lt_trans h (by decide)), Nat.mod_eq_of_lt h, Nat.shiftRight_eq_div_pow]
  · rename_i h
    rw [Nat.min_eq_right (by omega)]
    have := x.toNat_lt
    simp
    omega
theorem u32_nonneg (x : UInt32) : (0 ≤ (x.toNat : Int)) = True := by simp
theorem u32_eq (x y : UInt32) : ((x.toNat : Int) = (y.toNat : Int)) = (x = y) := by simp [← UInt32.toNat_inj]; omega
theorem u32_lt (x y : UInt32) : ((x.toNat : Int) < (y.toNat : Int)) = (x < y) := by rw [UInt32.lt_iff_toNat_lt]; simp
theorem u32_le (x y : UInt32) : ((x.toNat : Int) ≤ (y.toNat : Int)) = (x ≤ y) := by rw [UInt32.le_iff_toNat_le]; simp
theorem u32_toInt (x : UInt32) : ((x.toNat : Int)).toNat = x.toNat := by simp

theorem u64_nat (m : Nat) : UInt64.ofInt (m : Int) = UInt64.ofNat m := by rw [← UInt64.toNat_inj]; simp [UInt64.ofInt, Int.emod_emod_of_dvd]; omega
theorem u64_self (x : UInt64) : UInt64.ofInt (x.toNat : Int) = x := by rw [u64_nat, UInt64.ofNat_toNat]
theorem u64_toNat (z : Int) : ((UInt64.ofInt z).toNat : Int) = z % 2 ^ 64 := by
  have h0 : 0 ≤ z % 2 ^ 64 := Int.emod_nonneg _ (by decide)
  have h1 : z % 2 ^ 64 < 2 ^ 64 := Int.emod_lt_of_pos _ (by decide)
  simp only [UInt64.ofInt]
  rw [UInt64.toNat_ofNat']
  omega
theorem u64_wrap (z : Int) : IntKind.u64.wrap z = ((UInt64.ofInt z).toNat : Int) := by rw [u64_toNat]; simp [IntKind.wrap, IntKind.bits, IntKind.signed]
theorem u64_sub (x y : Int) : UInt64.ofInt (x - y) = UInt64.ofInt x - UInt64.ofInt y := by
  have := UInt64.ofInt_add (x - y) y
  rw [Int.sub_add_cancel] at this
  rw [this, UInt64.add_sub_cancel]
theorem u64_bv (z : Int) : BitVec.ofInt IntKind.u64.bits z = (UInt64.ofInt z).toBitVec := by
  apply BitVec.eq_of_toInt_eq
  have h := u64_toNat z
  apply congrArg
  apply BitVec.eq_of_toNat_eq
  show (BitVec.ofInt 64 z).toNat = (UInt64.ofInt z).toNat
  rw [BitVec.toNat_ofInt, show ((2 ^ 64 : Nat) : Int) = 2 ^ 64 from rfl]
  omega
theorem u64_and (x y : Int) : UInt64.ofInt (((BitVec.ofInt IntKind.u64.bits x &&& BitVec.ofInt IntKind.u64.bits y).toNat : Nat) : Int) = UInt64.ofInt x &&& UInt64.ofInt y := by rw [u64_bv, u64_bv]; exact u64_self (UInt64.ofInt x &&& UInt64.ofInt y)
theorem u64_or (x y : Int) : UInt64.ofInt (((BitVec.ofInt IntKind.u64.bits x ||| BitVec.ofInt IntKind.u64.bits y).toNat : Nat) : Int) = UInt64.ofInt x ||| UInt64.ofInt y := by rw [u64_bv, u64_bv]; exact u64_self (UInt64.ofInt x ||| UInt64.ofInt y)
theorem u64_xor (x y : Int) : UInt64.ofInt (((BitVec.ofInt IntKind.u64.bits x ^^^ BitVec.ofInt IntKind.u64.bits y).toNat : Nat) : Int) = UInt64.ofInt x ^^^ UInt64.ofInt y := by rw [u64_bv, u64_bv]; exact u64_self (UInt64.ofInt x ^^^ UInt64.ofInt y)
theorem u64_andNot (x y : Int) : UInt64.ofInt (((BitVec.ofInt IntKind.u64.bits x &&& ~~~ BitVec.ofInt IntKind.u64.bits y).toNat : Nat) : Int) = UInt64.ofInt x &&& ~~~ UInt64.ofInt y := by rw [u64_bv, u64_bv]; exact u64_self (UInt64.ofInt x &&& ~~~ UInt64.ofInt y)
def u64_shl (x : UInt64) (k : Nat) : UInt64 := if k < 64 then x <<< (UInt64.ofNat k) else 0
def u64_shr (x : UInt64) (k : Nat) : UInt64 := if k < 64 then x >>> (UInt64.ofNat k) else 0
theorem u64_shl_eq (x : UInt64) (k : Nat) : x * UInt64.ofInt (2 ^ (min k IntKind.u64.bits)) = u64_shl x k := by
  unfold u64_shl
  rw [← UInt64.toNat_inj]
  have e : UInt64.ofInt (2 ^ (min k IntKind.u64.bits)) = UInt64.ofNat (2 ^ (min k 64)) := by
    rw [← u64_nat]; simp [IntKind.bits]
  rw [e, UInt64.toNat_mul, UInt64.toNat_ofNat']
  split
  · rename_i h
    rw [Nat.min_eq_left (by omega), UInt64.toNat_shiftLeft, UInt64.toNat_ofNat', Nat.mod_eq_of_lt (show k < 2 ^ 64 from Nat.lt_trans h (by decide)), Nat.mod_eq_of_lt h, Nat.shiftLeft_eq, Nat.mul_mod, Nat.mod_mod, ← Nat.mul_mod]
  · rename_i h
    rw [Nat.min_eq_right (by omega)]
    simp
theorem u64_shr_eq (x : UInt64) (k : Nat) : ((x.toNat : Int)).fdiv (2 ^ (min k IntKind.u64.bits)) = ((u64_shr x k).toNat : Int) := by
  unfold u64_shr
  have e : ((x.toNat : Int)).fdiv (2 ^ (min k IntKind.u64.bits)) = ((x.toNat / 2 ^ (min k 64) : Nat) : Int) := by
    rw [Int.fdiv_eq_ediv_of_nonneg _ (Int.le_of_lt (Int.pow_pos (by decide)))]
    simp [IntKind.bits]
  rw [e]
  congr 1
  split
  · rename_i h
    rw [Nat.min_eq_left (by omega), UInt64.toNat_shiftRight, UInt64.toNat_ofNat', Nat.mod_eq_of_lt (show k < 2 ^ 64 from Nat.lt_trans h (by decide)), Nat.mod_eq_of_lt h, Nat.shiftRight_eq_div_pow]
  · rename_i h
    rw [Nat.min_eq_right (by omega)]
    have := x.toNat_lt
    simp
    omega
theorem u64_nonneg (x : UInt64) : (0 ≤ (x.toNat : Int)) = True := by simp
theorem u64_eq (x y : UInt64) : ((x.toNat : Int) = (y.toNat : Int)) = (x = y) := by simp [← UInt64.toNat_inj]; omega
theorem u64_lt (x y : UInt64) : ((x.toNat : Int) < (y.toNat : Int)) = (x < y) := by rw [UInt64.lt_iff_toNat_lt]; simp
theorem u64_le (x y : UInt64) : ((x.toNat : Int) ≤ (y.toNat : Int)) = (x ≤ y) := by rw [UInt64.le_iff_toNat_le]; simp
theorem u64_toInt (x : UInt64) : ((x.toNat : Int)).toNat = x.toNat := by simp

theorem u8_of_u16 (y : UInt16) : UInt8.ofInt (y.toNat : Int) = y.toUInt8 := by rw [u8_nat, ← UInt8.toNat_inj]; simp
theorem u8_of_u32 (y : UInt32) : UInt8.ofInt (y.toNat : Int) = y.toUInt8 := by rw [u8_nat, ← UInt8.toNat_inj]; simp
theorem u8_of_u64 (y : UInt64) : UInt8.ofInt (y.toNat : Int) = y.toUInt8 := by rw [u8_nat, ← UInt8.toNat_inj]; simp
theorem u16_of_u8 (y : UInt8) : UInt16.ofInt (y.toNat : Int) = y.toUInt16 := by rw [u16_nat, ← UInt16.toNat_inj]; simp
theorem u16_of_u32 (y : UInt32) : UInt16.ofInt (y.toNat : Int) = y.toUInt16 := by rw [u16_nat, ← UInt16.toNat_inj]; simp
theorem u16_of_u64 (y : UInt64) : UInt16.ofInt (y.toNat : Int) = y.toUInt16 := by rw [u16_nat, ← UInt16.toNat_inj]; simp
theorem u32_of_u8 (y : UInt8) : UInt32.ofInt (y.toNat : Int) = y.toUInt32 := by rw [u32_nat, ← UInt32.toNat_inj]; simp
theorem u32_of_u16 (y : UInt16) : UInt32.ofInt (y.toNat : Int) = y.toUInt32 := by rw [u32_nat, ← UInt32.toNat_inj]; simp
theorem u32_of_u64 (y : UInt64) : UInt32.ofInt (y.toNat : Int) = y.toUInt32 := by rw [u32_nat, ← UInt32.toNat_inj]; simp
theorem u64_of_u8 (y : UInt8) : UInt64.ofInt (y.toNat : Int) = y.toUInt64 := by rw [u64_nat, ← UInt64.toNat_inj]; simp
theorem u64_of_u16 (y : UInt16) : UInt64.ofInt (y.toNat : Int) = y.toUInt64 := by rw [u64_nat, ← UInt64.toNat_inj]; simp
theorem u64_of_u32 (y : UInt32) : UInt64.ofInt (y.toNat : Int) = y.toUInt64 := by rw [u64_nat, ← UInt64.toNat_inj]; simp

/-! ### Numbers in rows -/
def by8 (x : UInt8) : AV := .p (.int .u8 (x.toNat : Int))
def w16 (x : UInt16) : AV := .p (.int .u16 (x.toNat : Int))
def w32 (x : UInt32) : AV := .p (.int .u32 (x.toNat : Int))
def w64 (x : UInt64) : AV := .p (.int .u64 (x.toNat : Int))
def wint (x : Int) : AV := .p (.int .i64 x)
theorem getO_mapf {α β : Type} (f : α → β) (o : Option α) (K : β → Prop) : getO (Option.map f o) K = getO o fun x => K (f x) := by cases o <;> rfl
theorem getO_lt {α : Type} [Inhabited α] (l : List α) (k : Nat) (K : α → Prop) (h : k < l.length) : getO l[k]? K = K l[k]! := by
  rw [List.getElem?_eq_getElem h, getElem!_pos l k h]; rfl
theorem ones_map {α : Type} (f : α → AV) (hf : ∀ x, (f x).one = true) (l : List α) : ones (l.map f) = true := by simp [ones, hf]
theorem plains_mapv {α : Type} (f : α → AV) (g : α → Value) (hf : ∀ x, f x = .p (g x)) (l : List α) : plains (l.map f) = some (l.map g) := by rw [show f = fun x => .p (g x) from funext hf]; exact plains_map' g l
theorem wo_map {α : Type} (f : α → AV) (q : Nat → Bool) (hf : ∀ x, (f x).wo q = f x) (l : List α) : List.map (AV.wo q) (List.map f l) = List.map f l := by simp [List.map_map, Function.comp_def, hf]
theorem pub_map {α : Type} (f : α → AV) (i : Nat) (cs : List AV) (hf : ∀ x, (f x).pub i cs = f x) (l : List α) : List.map (AV.pub i cs) (List.map f l) = List.map f l := by simp [List.map_map, Function.comp_def, hf]
theorem clean_map {α : Type} (f : α → AV) (hf : ∀ x, (f x).Clean) (l : List α) : ∀ a ∈ List.map f l, a.Clean := by
  intro a ha; obtain ⟨x, _, rfl⟩ := List.mem_map.1 ha; exact hf x

theorem vl :
  (∀ x : UInt8, by8 x = AV.p (.int .u8 (x.toNat : Int))) ∧
  (∀ l : List UInt8, ones (l.map by8) = true) ∧
  (∀ l : List UInt8, plains (l.map by8) = some (l.map fun x => .int .u8 (x.toNat : Int))) ∧
  (∀ (q : Nat → Bool) (l : List UInt8), List.map (AV.wo q) (List.map by8 l) = List.map by8 l) ∧
  (∀ (i : Nat) (cs : List AV) (l : List UInt8), List.map (AV.pub i cs) (List.map by8 l) = List.map by8 l) ∧
  (∀ (l : List UInt8), (List.map by8 l).length = l.length) ∧
  (∀ (l : List UInt8) (k : Nat) (x : UInt8), List.set (List.map by8 l) k (AV.p (.int .u8 (x.toNat : Int))) = List.map by8 (l.set k x)) ∧
  (∀ (l : List UInt8) (x : UInt8), List.map by8 l ++ [AV.p (.int .u8 (x.toNat : Int))] = List.map by8 (l ++ [x])) ∧
  (∀ (l m : List UInt8), List.map by8 l ++ List.map by8 m = List.map by8 (l ++ m)) ∧
  (∀ (l : List UInt8) (k : Nat), List.drop k (List.map by8 l) = List.map by8 (l.drop k)) ∧
  (∀ (l : List UInt8) (k : Nat), List.take k (List.map by8 l) = List.map by8 (l.take k)) ∧
  (∀ (l : List UInt8) (k : Nat), (List.map by8 l)[k]? = Option.map by8 l[k]?) ∧
  (∀ (o : Option UInt8) (K : AV → Prop), getO (Option.map by8 o) K = getO o fun x => K (by8 x)) ∧
  (∀ (l : List UInt8), (List.map by8 l = []) = (l = [])) ∧
  (List.map by8 [] = []) ∧
  (∀ x : UInt16, w16 x = AV.p (.int .u16 (x.toNat : Int))) ∧
  (∀ l : List UInt16, ones (l.map w16) = true) ∧
  (∀ l : List UInt16, plains (l.map w16) = some (l.map fun x => .int .u16 (x.toNat : Int))) ∧
  (∀ (q : Nat → Bool) (l : List UInt16), List.map (AV.wo q) (List.map w16 l) = List.map w16 l) ∧
  (∀ (i : Nat) (cs : List AV) (l : List UInt16), List.map (AV.pub i cs) (List.map w16 l) = List.map w16 l) ∧
  (∀ (l : List UInt16), (List.map w16 l).length = l.length) ∧
  (∀ (l : List UInt16) (k : Nat) (x : UInt16), List.set (List.map w16 l) k (AV.p (.int .u16 (x.toNat : Int))) = List.map w16 (l.set k x)) ∧
  (∀ (l : List UInt16) (x : UInt16), List.map w16 l ++ [AV.p (.int .u16 (x.toNat : Int))] = List.map w16 (l ++ [x])) ∧
  (∀ (l m : List UInt16), List.map w16 l ++ List.map w16 m = List.map w16 (l ++ m)) ∧
  (∀ (l : List UInt16) (k : Nat), List.drop k (List.map w16 l) = List.map w16 (l.drop k)) ∧
  (∀ (l : List UInt16) (k : Nat), List.take k (List.map w16 l) = List.map w16 (l.take k)) ∧
  (∀ (l : List UInt16) (k : Nat), (List.map w16 l)[k]? = Option.map w16 l[k]?) ∧
  (∀ (o : Option UInt16) (K : AV → Prop), getO (Option.map w16 o) K = getO o fun x => K (w16 x)) ∧
  (∀ (l : List UInt16), (List.map w16 l = []) = (l = [])) ∧
  (List.map w16 [] = []) ∧
  (∀ x : UInt32, w32 x = AV.p (.int .u32 (x.toNat : Int))) ∧
  (∀ l : List UInt32, ones (l.map w32) = true) ∧
  (∀ l : List UInt32, plains (l.map w32) = some (l.map fun x => .int .u32 (x.toNat : Int))) ∧
  (∀ (q : Nat → Bool) (l : List UInt32), List.map (AV.wo q) (List.map w32 l) = List.map w32 l) ∧
  (∀ (i : Nat) (cs : List AV) (l : List UInt32), List.map (AV.pub i cs) (List.map w32 l) = List.map w32 l) ∧
  (∀ (l : List UInt32), (List.map w32 l).length = l.length) ∧
  (∀ (l : List UInt32) (k : Nat) (x : UInt32), List.set (List.map w32 l) k (AV.p (.int .u32 (x.toNat : Int))) = List.map w32 (l.set k x)) ∧
  (∀ (l : List UInt32) (x : UInt32), List.map w32 l ++ [AV.p (.int .u32 (x.toNat : Int))] = List.map w32 (l ++ [x])) ∧
  (∀ (l m : List UInt32), List.map w32 l ++ List.map w32 m = List.map w32 (l ++ m)) ∧
  (∀ (l : List UInt32) (k : Nat), List.drop k (List.map w32 l) = List.map w32 (l.drop k)) ∧
  (∀ (l : List UInt32) (k : Nat), List.take k (List.map w32 l) = List.map w32 (l.take k)) ∧
  (∀ (l : List UInt32) (k : Nat), (List.map w32 l)[k]? = Option.map w32 l[k]?) ∧
  (∀ (o : Option UInt32) (K : AV → Prop), getO (Option.map w32 o) K = getO o fun x => K (w32 x)) ∧
  (∀ (l : List UInt32), (List.map w32 l = []) = (l = [])) ∧
  (List.map w32 [] = []) ∧
  (∀ x : UInt64, w64 x = AV.p (.int .u64 (x.toNat : Int))) ∧
  (∀ l : List UInt64, ones (l.map w64) = true) ∧
  (∀ l : List UInt64, plains (l.map w64) = some (l.map fun x => .int .u64 (x.toNat : Int))) ∧
  (∀ (q : Nat → Bool) (l : List UInt64), List.map (AV.wo q) (List.map w64 l) = List.map w64 l) ∧
  (∀ (i : Nat) (cs : List AV) (l : List UInt64), List.map (AV.pub i cs) (List.map w64 l) = List.map w64 l) ∧
  (∀ (l : List UInt64), (List.map w64 l).length = l.length) ∧
  (∀ (l : List UInt64) (k : Nat) (x : UInt64), List.set (List.map w64 l) k (AV.p (.int .u64 (x.toNat : Int))) = List.map w64 (l.set k x)) ∧
  (∀ (l : List UInt64) (x : UInt64), List.map w64 l ++ [AV.p (.int .u64 (x.toNat : Int))] = List.map w64 (l ++ [x])) ∧
  (∀ (l m : List UInt64), List.map w64 l ++ List.map w64 m = List.map w64 (l ++ m)) ∧
  (∀ (l : List UInt64) (k : Nat), List.drop k (List.map w64 l) = List.map w64 (l.drop k)) ∧
  (∀ (l : List UInt64) (k : Nat), List.take k (List.map w64 l) = List.map w64 (l.take k)) ∧
  (∀ (l : List UInt64) (k : Nat), (List.map w64 l)[k]? = Option.map w64 l[k]?) ∧
  (∀ (o : Option UInt64) (K : AV → Prop), getO (Option.map w64 o) K = getO o fun x => K (w64 x)) ∧
  (∀ (l : List UInt64), (List.map w64 l = []) = (l = [])) ∧
  (List.map w64 [] = []) ∧
  (∀ x : Int, wint x = AV.p (.int .i64 x)) ∧
  (∀ l : List Int, ones (l.map wint) = true) ∧
  (∀ l : List Int, plains (l.map wint) = some (l.map fun x => .int .i64 x)) ∧
  (∀ (q : Nat → Bool) (l : List Int), List.map (AV.wo q) (List.map wint l) = List.map wint l) ∧
  (∀ (i : Nat) (cs : List AV) (l : List Int), List.map (AV.pub i cs) (List.map wint l) = List.map wint l) ∧
  (∀ (l : List Int), (List.map wint l).length = l.length) ∧
  (∀ (l : List Int) (k : Nat) (x : Int), List.set (List.map wint l) k (AV.p (.int .i64 x)) = List.map wint (l.set k x)) ∧
  (∀ (l : List Int) (x : Int), List.map wint l ++ [AV.p (.int .i64 x)] = List.map wint (l ++ [x])) ∧
  (∀ (l m : List Int), List.map wint l ++ List.map wint m = List.map wint (l ++ m)) ∧
  (∀ (l : List Int) (k : Nat), List.drop k (List.map wint l) = List.map wint (l.drop k)) ∧
  (∀ (l : List Int) (k : Nat), List.take k (List.map wint l) = List.map wint (l.take k)) ∧
  (∀ (l : List Int) (k : Nat), (List.map wint l)[k]? = Option.map wint l[k]?) ∧
  (∀ (o : Option Int) (K : AV → Prop), getO (Option.map wint o) K = getO o fun x => K (wint x)) ∧
  (∀ (l : List Int), (List.map wint l = []) = (l = [])) ∧
  (List.map wint [] = []) := by
  refine ⟨?_, ?_, ?_, ?_, ?_, ?_, ?_, ?_, ?_, ?_, ?_, ?_, ?_, ?_, ?_, ?_, ?_, ?_, ?_, ?_, ?_, ?_, ?_, ?_, ?_, ?_, ?_, ?_, ?_, ?_, ?_, ?_, ?_, ?_, ?_, ?_, ?_, ?_, ?_, ?_, ?_, ?_, ?_, ?_, ?_, ?_, ?_, ?_, ?_, ?_, ?_, ?_, ?_, ?_, ?_, ?_, ?_, ?_, ?_, ?_, ?_, ?_, ?_, ?_, ?_, ?_, ?_, ?_, ?_, ?_, ?_, ?_, ?_, ?_, ?_⟩ <;> intros
  · exact rfl
  · exact ones_map _ (fun _ => rfl) _
  · exact plains_mapv _ _ (fun _ => rfl) _
  · exact wo_map _ _ (fun _ => by rw [by8, AV.wo]) _
  · exact pub_map _ _ _ (fun _ => by rw [by8, AV.pub]) _
  · simp
  · simp [List.map_set, by8]
  · simp [by8]
  · simp
  · simp [List.map_drop]
  · simp [List.map_take]
  · simp
  · exact getO_mapf _ _ _
  · simp
  · exact rfl
  · exact rfl
  · exact ones_map _ (fun _ => rfl) _
  · exact plains_mapv _ _ (fun _ => rfl) _
  · exact wo_map _ _ (fun _ => by rw [w16, AV.wo]) _
  · exact pub_map _ _ _ (fun _ => by rw [w16, AV.pub]) _
  · simp
  · simp [List.map_set, w16]
  · simp [w16]
  · simp
  · simp [List.map_drop]
  · simp [List.map_take]
  · simp
  · exact getO_mapf _ _ _
  · simp
  · exact rfl
  · exact rfl
  · exact ones_map _ (fun _ => rfl) _
  · exact plains_mapv _ _ (fun _ => rfl) _
  · exact wo_map _ _ (fun _ => by rw [w32, AV.wo]) _
  · exact pub_map _ _ _ (fun _ => by rw [w32, AV.pub]) _
  · simp
  · simp [List.map_set, w32]
  · simp [w32]
  · simp
  · simp [List.map_drop]
  · simp [List.map_take]
  · simp
  · exact getO_mapf _ _ _
  · simp
  · exact rfl
  · exact rfl
  · exact ones_map _ (fun _ => rfl) _
  · exact plains_mapv _ _ (fun _ => rfl) _
  · exact wo_map _ _ (fun _ => by rw [w64, AV.wo]) _
  · exact pub_map _ _ _ (fun _ => by rw [w64, AV.pub]) _
  · simp
  · simp [List.map_set, w64]
  · simp [w64]
  · simp
  · simp [List.map_drop]
  · simp [List.map_take]
  · simp
  · exact getO_mapf _ _ _
  · simp
  · exact rfl
  · exact rfl
  · exact ones_map _ (fun _ => rfl) _
  · exact plains_mapv _ _ (fun _ => rfl) _
  · exact wo_map _ _ (fun _ => by rw [wint, AV.wo]) _
  · exact pub_map _ _ _ (fun _ => by rw [wint, AV.pub]) _
  · simp
  · simp [List.map_set, wint]
  · simp [wint]
  · simp
  · simp [List.map_drop]
  · simp [List.map_take]
  · simp
  · exact getO_mapf _ _ _
  · simp
  · exact rfl

/-- what holds in range -/
theorem vi :
  (∀ z : Int, -9223372036854775808 ≤ z ∧ z ≤ 9223372036854775807 → IntKind.i64.wrap z = z) ∧
  (∀ x y : Int, 0 ≤ x ∧ 0 ≤ y → (x + y).toNat = x.toNat + y.toNat) ∧
  (∀ x y : Int, 0 ≤ y ∧ 0 ≤ x → (x - y).toNat = x.toNat - y.toNat) ∧
  (∀ x y : Int, 0 ≤ x ∧ 0 ≤ y → (x * y).toNat = x.toNat * y.toNat) := by
  refine ⟨fun z h => IntWalk.i64_in z h, fun x y h => by omega, fun x y h => by omega, fun x y ⟨h1, h2⟩ => ?_⟩
  obtain ⟨a, rfl⟩ := Int.eq_ofNat_of_zero_le h1
  obtain ⟨b, rfl⟩ := Int.eq_ofNat_of_zero_le h2
  simp [← Int.natCast_mul]
theorem CondP.dec {p : Prop} [Decidable p] {A B : Prop} (h1 : p → A) (h2 : ¬ p → B) : CondP (.bool (decide p)) A B := CondP.split (fun h => h1 (of_decide_eq_true h)) (fun h => h2 (of_decide_eq_false h))
theorem CondP.ndec {p : Prop} [Decidable p] {A B : Prop} (h1 : ¬ p → A) (h2 : p → B) : CondP (.bool (!decide p)) A B := CondP.split (fun h => h1 (by simpa using h)) (fun h => h2 (by simpa using h))
theorem getO_i {α : Type} [Inhabited α] : ∀ (l : List α) (k : Nat) (K : α → Prop), k < l.length → getO l[k]? K = K l[k]! := getO_lt

theorem vu :
  (∀ z : Int, IntKind.u8.wrap z = ((UInt8.ofInt z).toNat : Int)) ∧
  (∀ x : UInt8, UInt8.ofInt (x.toNat : Int) = x) ∧
  (∀ x y : Int, UInt8.ofInt (x - y) = UInt8.ofInt x - UInt8.ofInt y) ∧
  (∀ x y : Int, UInt8.ofInt (x + y) = UInt8.ofInt x + UInt8.ofInt y) ∧
  (∀ x y : Int, UInt8.ofInt (x * y) = UInt8.ofInt x * UInt8.ofInt y) ∧
  (∀ x y : Int, UInt8.ofInt (((BitVec.ofInt IntKind.u8.bits x &&& BitVec.ofInt IntKind.u8.bits y).toNat : Nat) : Int) = UInt8.ofInt x &&& UInt8.ofInt y) ∧
  (∀ x y : Int, UInt8.ofInt (((BitVec.ofInt IntKind.u8.bits x ||| BitVec.ofInt IntKind.u8.bits y).toNat : Nat) : Int) = UInt8.ofInt x ||| UInt8.ofInt y) ∧
  (∀ x y : Int, UInt8.ofInt (((BitVec.ofInt IntKind.u8.bits x ^^^ BitVec.ofInt IntKind.u8.bits y).toNat : Nat) : Int) = UInt8.ofInt x ^^^ UInt8.ofInt y) ∧
  (∀ x y : Int, UInt8.ofInt (((BitVec.ofInt IntKind.u8.bits x &&& ~~~ BitVec.ofInt IntKind.u8.bits y).toNat : Nat) : Int) = UInt8.ofInt x &&& ~~~ UInt8.ofInt y) ∧
  (∀ (x : UInt8) (k : Nat), x * UInt8.ofInt (2 ^ (min k IntKind.u8.bits)) = u8_shl x k) ∧
  (∀ (x : UInt8) (k : Nat), ((x.toNat : Int)).fdiv (2 ^ (min k IntKind.u8.bits)) = ((u8_shr x k).toNat : Int)) ∧
  (∀ x : UInt8, (0 ≤ (x.toNat : Int)) = True) ∧
  (∀ x : UInt8, ((x.toNat : Int)).toNat = x.toNat) ∧
  (∀ y : UInt16, UInt8.ofInt (y.toNat : Int) = y.toUInt8) ∧
  (∀ y : UInt32, UInt8.ofInt (y.toNat : Int) = y.toUInt8) ∧
  (∀ y : UInt64, UInt8.ofInt (y.toNat : Int) = y.toUInt8) ∧
  (∀ z : Int, IntKind.u16.wrap z = ((UInt16.ofInt z).toNat : Int)) ∧
  (∀ x : UInt16, UInt16.ofInt (x.toNat : Int) = x) ∧
  (∀ x y : Int, UInt16.ofInt (x - y) = UInt16.ofInt x - UInt16.ofInt y) ∧
  (∀ x y : Int, UInt16.ofInt (x + y) = UInt16.ofInt x + UInt16.ofInt y) ∧
  (∀ x y : Int, UInt16.ofInt (x * y) = UInt16.ofInt x * UInt16.ofInt y) ∧
  (∀ x y : Int, UInt16.ofInt (((BitVec.ofInt IntKind.u16.bits x &&& BitVec.ofInt IntKind.u16.bits y).toNat : Nat) : Int) = UInt16.ofInt x &&& UInt16.ofInt y) ∧
  (∀ x y : Int, UInt16.ofInt (((BitVec.ofInt IntKind.u16.bits x ||| BitVec.ofInt IntKind.u16.bits y).toNat : Nat) : Int) = UInt16.ofInt x ||| UInt16.ofInt y) ∧
  (∀ x y : Int, UInt16.ofInt (((BitVec.ofInt IntKind.u16.bits x ^^^ BitVec.ofInt IntKind.u16.bits y).toNat : Nat) : Int) = UInt16.ofInt x ^^^ UInt16.ofInt y) ∧
  (∀ x y : Int, UInt16.ofInt (((BitVec.ofInt IntKind.u16.bits x &&& ~~~ BitVec.ofInt IntKind.u16.bits y).toNat : Nat) : Int) = UInt16.ofInt x &&& ~~~ UInt16.ofInt y) ∧
  (∀ (x : UInt16) (k : Nat), x * UInt16.ofInt (2 ^ (min k IntKind.u16.bits)) = u16_shl x k) ∧
  (∀ (x : UInt16) (k : Nat), ((x.toNat : Int)).fdiv (2 ^ (min k IntKind.u16.bits)) = ((u16_shr x k).toNat : Int)) ∧
  (∀ x : UInt16, (0 ≤ (x.toNat : Int)) = True) ∧
  (∀ x : UInt16, ((x.toNat : Int)).toNat = x.toNat) ∧
  (∀ y : UInt8, UInt16.ofInt (y.toNat : Int) = y.toUInt16) ∧
  (∀ y : UInt32, UInt16.ofInt (y.toNat : Int) = y.toUInt16) ∧
  (∀ y : UInt64, UInt16.ofInt (y.toNat : Int) = y.toUInt16) ∧
  (∀ z : Int, IntKind.u32.wrap z = ((UInt32.ofInt z).toNat : Int)) ∧
  (∀ x : UInt32, UInt32.ofInt (x.toNat : Int) = x) ∧
  (∀ x y : Int, UInt32.ofInt (x - y) = UInt32.ofInt x - UInt32.ofInt y) ∧
  (∀ x y : Int, UInt32.ofInt (x + y) = UInt32.ofInt x + UInt32.ofInt y) ∧
  (∀ x y : Int, UInt32.ofInt (x * y) = UInt32.ofInt x * UInt32.ofInt y) ∧
  (∀ x y : Int, UInt32.ofInt (((BitVec.ofInt IntKind.u32.bits x &&& BitVec.ofInt IntKind.u32.bits y).toNat : Nat) : Int) = UInt32.ofInt x &&& UInt32.ofInt y) ∧
  (∀ x y : Int, UInt32.ofInt (((BitVec.ofInt IntKind.u32.bits x ||| BitVec.ofInt IntKind.u32.bits y).toNat : Nat) : Int) = UInt32.ofInt x ||| UInt32.ofInt y) ∧
  (∀ x y : Int, UInt32.ofInt (((BitVec.ofInt IntKind.u32.bits x ^^^ BitVec.ofInt IntKind.u32.bits y).toNat : Nat) : Int) = UInt32.ofInt x ^^^ UInt32.ofInt y) ∧
  (∀ x y : Int, UInt32.ofInt (((BitVec.ofInt IntKind.u32.bits x &&& ~~~ BitVec.ofInt IntKind.u32.bits y).toNat : Nat) : Int) = UInt32.ofInt x &&& ~~~ UInt32.ofInt y) ∧
  (∀ (x : UInt32) (k : Nat), x * UInt32.ofInt (2 ^ (min k IntKind.u32.bits)) = u32_shl x k) ∧
  (∀ (x : UInt32) (k : Nat), ((x.toNat : Int)).fdiv (2 ^ (min k IntKind.u32.bits)) = ((u32_shr x k).toNat : Int)) ∧
  (∀ x : UInt32, (0 ≤ (x.toNat : Int)) = True) ∧
  (∀ x : UInt32, ((x.toNat : Int)).toNat = x.toNat) ∧
  (∀ y : UInt8, UInt32.ofInt (y.toNat : Int) = y.toUInt32) ∧
  (∀ y : UInt16, UInt32.ofInt (y.toNat : Int) = y.toUInt32) ∧
  (∀ y : UInt64, UInt32.ofInt (y.toNat : Int) = y.toUInt32) ∧
  (∀ z : Int, IntKind.u64.wrap z = ((UInt64.ofInt z).toNat : Int)) ∧
  (∀ x : UInt64, UInt64.ofInt (x.toNat : Int) = x) ∧
  (∀ x y : Int, UInt64.ofInt (x - y) = UInt64.ofInt x - UInt64.ofInt y) ∧
  (∀ x y : Int, UInt64.ofInt (x + y) = UInt64.ofInt x + UInt64.ofInt y) ∧
  (∀ x y : Int, UInt64.ofInt (x * y) = UInt64.ofInt x * UInt64.ofInt y) ∧
  (∀ x y : Int, UInt64.ofInt (((BitVec.ofInt IntKind.u64.bits x &&& BitVec.ofInt IntKind.u64.bits y).toNat : Nat) : Int) = UInt64.ofInt x &&& UInt64.ofInt y) ∧
  (∀ x y : Int, UInt64.ofInt (((BitVec.ofInt IntKind.u64.bits x ||| BitVec.ofInt IntKind.u64.bits y).toNat : Nat) : Int) = UInt64.ofInt x ||| UInt64.ofInt y) ∧
  (∀ x y : Int, UInt64.ofInt (((BitVec.ofInt IntKind.u64.bits x ^^^ BitVec.ofInt IntKind.u64.bits y).toNat : Nat) : Int) = UInt64.ofInt x ^^^ UInt64.ofInt y) ∧
  (∀ x y : Int, UInt64.ofInt (((BitVec.ofInt IntKind.u64.bits x &&& ~~~ BitVec.ofInt IntKind.u64.bits y).toNat : Nat) : Int) = UInt64.ofInt x &&& ~~~ UInt64.ofInt y) ∧
  (∀ (x : UInt64) (k : Nat), x * UInt64.ofInt (2 ^ (min k IntKind.u64.bits)) = u64_shl x k) ∧
  (∀ (x : UInt64) (k : Nat), ((x.toNat : Int)).fdiv (2 ^ (min k IntKind.u64.bits)) = ((u64_shr x k).toNat : Int)) ∧
  (∀ x : UInt64, (0 ≤ (x.toNat : Int)) = True) ∧
  (∀ x : UInt64, ((x.toNat : Int)).toNat = x.toNat) ∧
  (∀ y : UInt8, UInt64.ofInt (y.toNat : Int) = y.toUInt64) ∧
  (∀ y : UInt16, UInt64.ofInt (y.toNat : Int) = y.toUInt64) ∧
  (∀ y : UInt32, UInt64.ofInt (y.toNat : Int) = y.toUInt64) :=
  ⟨@u8_wrap, @u8_self, @u8_sub, @UInt8.ofInt_add, @UInt8.ofInt_mul, @u8_and, @u8_or, @u8_xor, @u8_andNot, @u8_shl_eq, @u8_shr_eq, @u8_nonneg, @u8_toInt, @u8_of_u16, @u8_of_u32, @u8_of_u64, @u16_wrap, @u16_self, @u16_sub, @UInt16.ofInt_add, @UInt16.ofInt_mul, @u16_and, @u16_or, @u16_xor, @u16_andNot, @u16_shl_eq, @u16_shr_eq, @u16_nonneg, @u16_toInt, @u16_of_u8, @u16_of_u32, @u16_of_u64, @u32_wrap, @u32_self, @u32_sub, @UInt32.ofInt_add, @UInt32.ofInt_mul, @u32_and, @u32_or, @u32_xor, @u32_andNot, @u32_shl_eq, @u32_shr_eq, @u32_nonneg, @u32_toInt, @u32_of_u8, @u32_of_u16, @u32_of_u64, @u64_wrap, @u64_self, @u64_sub, @UInt64.ofInt_add, @UInt64.ofInt_mul, @u64_and, @u64_or, @u64_xor, @u64_andNot, @u64_shl_eq, @u64_shr_eq, @u64_nonneg, @u64_toInt, @u64_of_u8, @u64_of_u16, @u64_of_u32⟩
end Go.E

set_option linter.unusedSimpArgs false
set_option linter.unusedVariables false
set_option linter.unusedSectionVars false
namespace Go.E
theorem get_old {T : Tbl} {i : Nat} {o : AObj} (h : T[i]? = some o) (l : Tbl) : (T ++ l)[i]? = some o := by
  rw [List.getElem?_append_left (List.getElem?_eq_some_iff.1 h).1]; exact h
/-- a is a slice of n elements of sz cells each; its cells are cs -/
def Sl (T : Tbl) (sz : Nat) (a : AV) (cs : List AV) (n : Nat) : Prop := cs.length = n * sz ∧ (a = .vs cs n ∨
  (∃ i off o ds, a = .sl i off n ∧ T[i]? = some o ∧ o.cs = some ds ∧ off + n * sz ≤ ds.length ∧ (ds.drop off).take (n * sz) = cs) ∨ (a = .p (.slice none 0 0) ∧ n = 0))
/-- its piece -/
def AV.sub (sz : Nat) (a : AV) (l h : Nat) : AV := match a with
  | .sl i off _ => .sl i (off + l * sz) (h - l)
  | .vs cs _ => .vs ((cs.drop (l * sz)).take ((h - l) * sz)) (h - l)
  | a => a
/-- a place in it -/
def AV.pl (a : AV) (k : Nat) : AV := match a with
  | .sl i off _ => .ptr i (off + k)
  | .vs cs _ => .vp cs k
  | a => a
section
variable {P : Program} {T : Tbl} {sz n : Nat} {a : AV} {cs : List AV} {K : AV → Prop}
theorem Sl.app (h : Sl T sz a cs n) (l : Tbl) : Sl (T ++ l) sz a cs n := by
  obtain ⟨hl, h | ⟨i, off, o, ds, h1, h2, h3⟩ | h⟩ := h
  · exact ⟨hl, .inl h⟩
  · exact ⟨hl, .inr (.inl ⟨i, off, o, ds, h1, get_old h2 l, h3⟩)⟩
  · exact ⟨hl, .inr (.inr h)⟩
theorem Sl.ln (h : Sl T sz a cs n) (s : Nat) : lnA (.slice s) a T K = K (.p (.int .i64 n)) := by
  obtain ⟨hl, rfl | ⟨i, off, o, ds, rfl, h2, h3⟩ | ⟨rfl, rfl⟩⟩ := h <;> rfl
theorem Sl.len (h : Sl T sz a cs n) {KN : Nat → Prop} : lenA a KN = KN n := by
  obtain ⟨hl, rfl | ⟨i, off, o, ds, rfl, h2, h3⟩ | ⟨rfl, rfl⟩⟩ := h <;> rfl
theorem Sl.pc (h : Sl T sz a cs n) (l m : Nat) : pcA sz a l m T K = ((l ≤ m ∧ m ≤ n) ∧ K (a.sub sz l m)) := by
  obtain ⟨hl, rfl | ⟨i, off, o, ds, rfl, h2, h3⟩ | ⟨rfl, rfl⟩⟩ := h
  · rfl
  · rfl
  · simp only [pcA, AV.sub]
    apply propext
    constructor
    · rintro ⟨⟨rfl, rfl⟩, h⟩; exact ⟨by omega, h⟩
    · rintro ⟨⟨h1, h2⟩, h⟩; exact ⟨by omega, h⟩
theorem Sl.sub (h : Sl T sz a cs n) {l m : Nat} (h1 : l ≤ m) (h2 : m ≤ n) : Sl T sz (a.sub sz l m) ((cs.drop (l * sz)).take ((m - l) * sz)) (m - l) := by
  have hle : l * sz + (m - l) * sz ≤ n * sz := by rw [← Nat.add_mul]; exact Nat.mul_le_mul_right _ (by omega)
  obtain ⟨hl, rfl | ⟨i, off, o, ds, rfl, g1, g2, g3, g4⟩ | ⟨rfl, rfl⟩⟩ := h
  · exact ⟨by simp; omega, .inl rfl⟩
  · refine ⟨by simp; omega, .inr (.inl ⟨i, _, o, ds, rfl, g1, g2, by omega, ?_⟩)⟩
    rw [← g4, List.drop_take, List.take_take, List.drop_drop]
    congr 1
    omega
  · exact ⟨by simp; omega, .inr (.inr ⟨rfl, by omega⟩)⟩
theorem Sl.src (h : Sl T sz a cs n) {KC : List AV → Nat → Prop} : srcA sz a T KC = KC cs n := by
  obtain ⟨hl, rfl | ⟨i, off, o, ds, rfl, g1, g2, g3, g4⟩ | ⟨rfl, rfl⟩⟩ := h
  · simp [srcA, hl]
  · simp only [srcA, g1]
    cases o <;> cases g2 <;> simp [csA, g3, g4]
  · have : cs = [] := List.eq_nil_of_length_eq_zero (by simpa using hl)
    subst this; rfl
theorem Sl.ix (h : Sl T sz a cs n) (h0 : sz ≠ 0) (ik : IntKind) (z : Int) : ixA sz a (.p (.int ik z)) T K = ((0 ≤ z ∧ z < n) ∧ K (a.pl (z.toNat * sz))) := by
  have hne : 0 ≤ z ∧ z < n → 0 < n * sz := fun hz => Nat.mul_pos (by omega) (by omega)
  obtain ⟨hl, rfl | ⟨i, off, o, ds, rfl, g1, g2, g3, g4⟩ | ⟨rfl, rfl⟩⟩ := h
  · simp only [ixA, AV.pl]
    apply propext
    exact ⟨fun h => ⟨⟨h.1.1, h.1.2.1⟩, h.2⟩, fun h => ⟨⟨h.1.1, h.1.2, fun e => by have := hne h.1; subst e; simp at hl; omega⟩, h.2⟩⟩
  · simp only [ixA, g1, AV.pl]
    have hds : 0 ≤ z ∧ z < n → ds ≠ [] := fun hz e => by
      have := hne hz; subst e; simp at g3; omega
    apply propext
    cases o <;> cases g2 <;> simp only [csA] <;> exact ⟨fun h => ⟨⟨h.1.1, h.1.2.1⟩, h.2⟩, fun h => ⟨⟨h.1.1, h.1.2, hds h.1⟩, h.2⟩⟩
  · simp only [ixA]
    apply propext
    constructor
    · exact fun h => h.elim
    · rintro ⟨h, _⟩; omega
/-- a load of one cell -/
theorem Sl.ld (h : Sl T sz a cs n) {t : TypeId} (ht : tak P t = some false) (k : Nat) (hk : k < n * sz) : loadA P t (a.pl k) T K = getO cs[k]? K := by
  obtain ⟨hl, rfl | ⟨i, off, o, ds, rfl, g1, g2, g3, g4⟩ | ⟨rfl, rfl⟩⟩ := h
  · simp only [AV.pl, loadA, ht, getA]
  · have e : cs[k]? = ds[off + k]? := by rw [← g4, List.getElem?_take_of_lt hk, List.getElem?_drop]
    simp only [AV.pl, loadA, g1]
    have key : getA (tak P t) (tsz P t) ds (off + k) K = getO cs[k]? K := by rw [ht, e]; rfl
    cases o <;> cases g2 <;> exact key
  · omega
/-- a load of an element of several cells -/
theorem Sl.lds (h : Sl T sz a cs n) {t : TypeId} (ht : tak P t = some true) (k : Nat) (h0 : 0 < tsz P t) (hk : k + tsz P t ≤ n * sz) : loadA P t (a.pl k) T K = K (.ag ((cs.drop k).take (tsz P t))) := by
  obtain ⟨hl, rfl | ⟨i, off, o, ds, rfl, g1, g2, g3, g4⟩ | ⟨rfl, rfl⟩⟩ := h
  · simp only [AV.pl, loadA, ht, getA]
    apply propext
    exact ⟨fun h => h.2, fun h => ⟨⟨h0, by omega⟩, h⟩⟩
  · have e : (cs.drop k).take (tsz P t) = (ds.drop (off + k)).take (tsz P t) := by
      rw [← g4, List.drop_take, List.take_take, List.drop_drop]; congr 1; omega
    simp only [AV.pl, loadA, g1]
    have key : getA (tak P t) (tsz P t) ds (off + k) K = K (.ag ((cs.drop k).take (tsz P t))) := by
      rw [ht, e]; exact propext ⟨fun h => h.2, fun h => ⟨⟨h0, by omega⟩, h⟩⟩
    cases o <;> cases g2 <;> exact key
  · omega
theorem Sl.wo (h : Sl T sz a cs n) (q : Nat → Bool) (hq : ∀ i, i < T.length → q i = false) : a.wo q = a := by
  obtain ⟨hl, rfl | ⟨i, off, o, ds, rfl, g1, g2, g3, g4⟩ | ⟨rfl, rfl⟩⟩ := h
  · rw [AV.wo]
  · rw [AV.wo, if_neg (by rw [hq _ (List.getElem?_eq_some_iff.1 g1).1]; simp)]
  · rw [AV.wo]
/-- the rules, for what stands behind -/
theorem Sl.rules (h : Sl T sz a cs n) (h0 : sz ≠ 0) :
    (∀ (l : Tbl) (s : Nat) (K : AV → Prop), lnA (.slice s) a (T ++ l) K = K (.p (.int .i64 n))) ∧ (∀ (s : Nat) (K : AV → Prop), lnA (.slice s) a T K = K (.p (.int .i64 n))) ∧ (∀ KN : Nat → Prop, lenA a KN = KN n) ∧
    (∀ (l : Tbl) (i j : Nat) (K : AV → Prop), pcA sz a i j (T ++ l) K = ((i ≤ j ∧ j ≤ n) ∧ K (a.sub sz i j))) ∧ (∀ (i j : Nat) (K : AV → Prop), pcA sz a i j T K = ((i ≤ j ∧ j ≤ n) ∧ K (a.sub sz i j))) ∧
    (∀ (l : Tbl) (KC : List AV → Nat → Prop), srcA sz a (T ++ l) KC = KC cs n) ∧ (∀ (KC : List AV → Nat → Prop), srcA sz a T KC = KC cs n) ∧
    (∀ (l : Tbl) (ik : IntKind) (z : Int) (K : AV → Prop), ixA sz a (.p (.int ik z)) (T ++ l) K = ((0 ≤ z ∧ z < n) ∧ K (a.pl (z.toNat * sz)))) ∧ (∀ (ik : IntKind) (z : Int) (K : AV → Prop), ixA sz a (.p (.int ik z)) T K = ((0 ≤ z ∧ z < n) ∧ K (a.pl (z.toNat * sz)))) ∧
    (∀ k : Nat, a.wo (· == T.length + k) = a) ∧ (a.wo (· == T.length) = a) ∧ (a.wo (fun i => decide (T.length ≤ i)) = a) :=
  ⟨fun l _ _ => (h.app l).ln _, fun _ _ => h.ln _, fun _ => h.len, fun l _ _ _ => (h.app l).pc _ _, fun _ _ _ => h.pc _ _, fun l _ => (h.app l).src, fun _ => h.src, fun l _ _ _ => (h.app l).ix h0 _ _, fun _ _ _ => h.ix h0 _ _,
    fun k => h.wo _ fun i hi => by simp; omega, h.wo _ fun i hi => by simp; omega, h.wo _ fun i hi => by simp; omega⟩
/-- loads, for what stands behind -/
theorem Sl.loads (h : Sl T sz a cs n) {t : TypeId} (ht : tak P t = some false) :
    (∀ (l : Tbl) (k : Nat) (K : AV → Prop), k < n * sz → loadA P t (a.pl k) (T ++ l) K = getO cs[k]? K) ∧ (∀ (k : Nat) (K : AV → Prop), k < n * sz → loadA P t (a.pl k) T K = getO cs[k]? K) :=
  ⟨fun l k _ hk => (h.app l).ld ht k hk, fun k _ hk => h.ld ht k hk⟩
theorem Sl.loadss (h : Sl T sz a cs n) {t : TypeId} (ht : tak P t = some true) (h0 : 0 < tsz P t) :
    (∀ (l : Tbl) (k : Nat) (K : AV → Prop), k + tsz P t ≤ n * sz → loadA P t (a.pl k) (T ++ l) K = K (.ag ((cs.drop k).take (tsz P t)))) ∧ (∀ (k : Nat) (K : AV → Prop), k + tsz P t ≤ n * sz → loadA P t (a.pl k) T K = K (.ag ((cs.drop k).take (tsz P t)))) :=
  ⟨fun l k _ hk => (h.app l).lds ht k h0 hk, fun k _ hk => h.lds ht k h0 hk⟩
theorem Sl.vs (cs : List AV) (n : Nat) (h : cs.length = n * sz) : Sl T sz (.vs cs n) cs n := ⟨h, .inl rfl⟩
theorem Sl.obj {i : Nat} {o : AObj} (hT : T[i]? = some o) (hc : o.cs = some cs) (h : cs.length = n * sz) : Sl T sz (.sl i 0 n) cs n := ⟨h, .inr (.inl ⟨i, 0, o, cs, rfl, hT, hc, by omega, by rw [List.drop_zero, List.take_of_length_le (by omega)]⟩)⟩
theorem Sl.nil : Sl T sz (.p (.slice none 0 0)) [] 0 := ⟨by simp, .inr (.inr ⟨rfl, rfl⟩)⟩
end
/-- a slice of bytes -/
def Bs (T : Tbl) (a : AV) (bs : List UInt8) : Prop := Sl T 1 a (bs.map by8) bs.length
theorem Bs.app {T : Tbl} {a : AV} {bs : List UInt8} (h : Bs T a bs) (l : Tbl) : Bs (T ++ l) a bs := Sl.app h l
theorem Bs.vs {T : Tbl} (bs : List UInt8) : Bs T (.vs (bs.map by8) bs.length) bs := Sl.vs _ _ (by simp)
theorem Bs.obj {T : Tbl} {i : Nat} {o : AObj} {bs : List UInt8} (hT : T[i]? = some o) (hc : o.cs = some (bs.map by8)) : Bs T (.sl i 0 bs.length) bs := Sl.obj hT hc (by simp)
theorem Bs.nil {T : Tbl} : Bs T (.p (.slice none 0 0)) [] := Sl.nil
theorem Bs.sub {T : Tbl} {a : AV} {bs : List UInt8} (h : Bs T a bs) {l m : Nat} (h1 : l ≤ m) (h2 : m ≤ bs.length) : Bs T (a.sub 1 l m) ((bs.drop l).take (m - l)) := by
  have := Sl.sub h h1 h2
  rw [Nat.mul_one, Nat.mul_one, ← List.map_drop, ← List.map_take] at this
  have hl : ((bs.drop l).take (m - l)).length = m - l := by simp; omega
  unfold Bs; rwa [hl]
theorem take_more {α : Type} (T l : List α) (k : Nat) : List.take (T.length + k) (T ++ l) = T ++ l.take k := by rw [List.take_append, List.take_of_length_le (by omega), Nat.add_sub_cancel_left]
theorem tmod_lit (a n : Nat) [OfNat Int n] : (a : Int).tmod ((n : Nat) : Int) = ((a % n : Nat) : Int) := rfl
theorem keep_all (T : Tbl) : keepT (fun _ => true) T = T := by
  refine List.ext_getElem? fun i => ?_
  rw [keepT_get]
  cases T[i]? with
  | none => rfl
  | some o => simp [keepO]
/-- the table's own rules -/
theorem vt :
  (∀ (T l : Tbl) (k : Nat), List.take (T.length + k) (T ++ l) = T ++ l.take k) ∧
  (∀ n k j : Nat, decide (n + k ≤ n + j) = decide (k ≤ j)) ∧ (∀ n k : Nat, decide (n + k ≤ n) = decide (k ≤ 0)) ∧ (∀ n k : Nat, decide (n ≤ n + k) = true) ∧ (∀ n : Nat, decide (n ≤ n) = true) ∧
  (∀ (q : Nat → Bool) (a b : List AV), List.map (AV.wo q) (a ++ b) = List.map (AV.wo q) a ++ List.map (AV.wo q) b) ∧
  (∀ (q : Nat → Bool) (a b : Tbl), List.map (AObj.wo q) (a ++ b) = List.map (AObj.wo q) a ++ List.map (AObj.wo q) b) ∧
  (∀ a b : List AV, ones (a ++ b) = (ones a && ones b)) ∧ (∀ l : List AV, (List.replicate 0 l).flatten = []) ∧ (∀ x : AV, (List.replicate 1 [x]).flatten = [x]) ∧ (∀ l : List AV, [] ++ l = l) ∧ (∀ x y : AV, [x].set 0 y = [y]) ∧ (∀ x : AV, List.take 1 [x] = [x]) ∧ (∀ T, keepT (fun _ => true) T = T) ∧ (∀ (i : Nat) (cs : List AV) (a b : Tbl), List.map (AObj.pub i cs) (a ++ b) = List.map (AObj.pub i cs) a ++ List.map (AObj.pub i cs) b) ∧ (∀ n k j : Nat, (n + k = n + j) = (k = j)) ∧ (∀ n k : Nat, (n = n + k) = (k = 0)) ∧ (∀ n k : Nat, (n + k = n) = (k = 0)) ∧
  (∀ a : Nat, (a : Int).tmod 64 = ((a % 64 : Nat) : Int)) ∧ (∀ a : Nat, (a : Int).tmod 4 = ((a % 4 : Nat) : Int)) ∧ (∀ a : Nat, (a : Int).tdiv 4 = ((a / 4 : Nat) : Int)) ∧ (∀ a : Nat, (a : Int).tmod 8 = ((a % 8 : Nat) : Int)) ∧ (∀ a : Nat, (a : Int).tdiv 8 = ((a / 8 : Nat) : Int)) ∧ (∀ a : Nat, (a : Int).tmod 2 = ((a % 2 : Nat) : Int)) ∧ (∀ a : Nat, (a : Int).tdiv 2 = ((a / 2 : Nat) : Int)) := by
  refine ⟨take_more, ?_, ?_, ?_, ?_, fun _ _ _ => List.map_append, fun _ _ _ => List.map_append, fun _ _ => List.all_append, fun _ => rfl, fun _ => rfl, fun _ => rfl, fun _ _ => rfl, fun _ => rfl, keep_all, fun _ _ _ _ => List.map_append, ?_, ?_, ?_, fun _ => rfl, fun _ => rfl, fun _ => rfl, fun _ => rfl, fun _ => rfl, fun _ => rfl, fun _ => rfl⟩ <;> intros <;> simp <;> omega
/-- what the start knows of itself: it has no reference to what is not there yet -/
structure Wfs (T : Tbl) (args : List AV) : Prop where
  wf : ∀ q : Nat → Bool, (∀ i, i < T.length → q i = false) → T.map (AObj.wo q) = T ∧ args.map (AV.wo q) = args
theorem Wfs.t {T : Tbl} {args : List AV} (h : Wfs T args) : (∀ k, T.map (AObj.wo (fun i => decide (T.length + k ≤ i))) = T) ∧ (T.map (AObj.wo (fun i => decide (T.length ≤ i))) = T) ∧ (∀ k, T.map (AObj.wo (fun i => i == T.length + k)) = T) ∧ (T.map (AObj.wo (fun i => i == T.length)) = T) :=
  ⟨fun k => (h.wf _ fun i hi => by simp; omega).1, (h.wf _ fun i hi => by simp; omega).1, fun k => (h.wf _ fun i hi => by simp; omega).1, (h.wf _ fun i hi => by simp; omega).1⟩
theorem Wfs.arg {T : Tbl} {args : List AV} (h : Wfs T args) (a : AV) (ha : a ∈ args) : (∀ k, a.wo (fun i => decide (T.length + k ≤ i)) = a) ∧ (a.wo (fun i => decide (T.length ≤ i)) = a) ∧ (∀ k, a.wo (fun i => i == T.length + k) = a) ∧ (a.wo (fun i => i == T.length) = a) := by
  have key : ∀ q : Nat → Bool, (∀ i, i < T.length → q i = false) → a.wo q = a := fun q hq => List.map_inj_left.1 ((h.wf q hq).2.trans (List.map_id args).symm) a ha
  exact ⟨fun k => key _ fun i hi => by simp; omega, key _ fun i hi => by simp; omega, fun k => key _ fun i hi => by simp; omega, key _ fun i hi => by simp; omega⟩
mutual
theorem pub_wo (i : Nat) (cs : List AV) : ∀ a : AV, a.wo (fun j => j == i) = a → a.pub i cs = a
  | .ptr j o, h => by
    rw [AV.wo] at h; rw [AV.pub]
    by_cases hj : j = i
    · simp [hj] at h
    · rw [if_neg hj]
  | .sl j o n, h => by
    rw [AV.wo] at h; rw [AV.pub]
    by_cases hj : j = i
    · simp [hj] at h
    · rw [if_neg hj]
  | .mp j, h => by
    rw [AV.wo] at h; rw [AV.pub]
    by_cases hj : j = i
    · simp [hj] at h
    · rw [if_neg hj]
  | .yl j, h => by
    rw [AV.wo] at h; rw [AV.pub]
    by_cases hj : j = i
    · simp [hj] at h
    · rw [if_neg hj]
  | .ag l, h => by rw [AV.wo, AV.ag.injEq] at h; rw [AV.pub, pub_woL i cs l h]
  | .tu l, h => by rw [AV.wo, AV.tu.injEq] at h; rw [AV.pub, pub_woL i cs l h]
  | .fn f l, h => by rw [AV.wo, AV.fn.injEq] at h; rw [AV.pub, pub_woL i cs l h.2]
  | .ic t v, h => by rw [AV.wo, AV.ic.injEq] at h; rw [AV.pub, pub_wo i cs v h.2]
  | .p v, _ => by rw [AV.pub]
  | .any, _ => by rw [AV.pub]
  | .vp l o, _ => by rw [AV.pub]
  | .vs l n, _ => by rw [AV.pub]
theorem pub_woL (i : Nat) (cs : List AV) : ∀ l : List AV, AV.woL (fun j => j == i) l = l → AV.pubL i cs l = l
  | [], _ => by rw [AV.pubL]
  | a :: r, h => by rw [AV.woL, List.cons.injEq] at h; rw [AV.pubL, pub_wo i cs a h.1, pub_woL i cs r h.2]
end
theorem pub_woO (i : Nat) (cs : List AV) (o : AObj) (h : o.wo (fun j => j == i) = o) : o.pub i cs = o := by
  cases o with
  | cells T l => rw [AObj.wo, AObj.cells.injEq, ← AV.woL_eq] at h; rw [AObj.pub, ← AV.pubL_eq, pub_woL i cs l h.2]
  | buf T sz l => rw [AObj.wo, AObj.buf.injEq, ← AV.woL_eq] at h; rw [AObj.pub, ← AV.pubL_eq, pub_woL i cs l h.2.2]
  | map es =>
    rw [AObj.wo, AObj.map.injEq] at h
    rw [AObj.pub, AObj.map.injEq]
    refine (List.map_congr_left fun e he => ?_).trans (List.map_id es)
    have := List.map_inj_left.1 (h.trans (List.map_id es).symm) e he
    have h2 : e.2.wo (fun j => j == i) = e.2 := congrArg Prod.snd this
    rw [pub_wo i cs e.2 h2]; rfl
  | raw o => rfl
  | rcd o l vs => rw [AObj.wo, AObj.rcd.injEq, ← AV.woL_eq] at h; rw [AObj.pub, ← AV.pubL_eq, pub_woL i cs l h.2.1]
  | gone => rfl
/-- the same for what is published -/
theorem Wfs.p {T : Tbl} {args : List AV} (h : Wfs T args) : (∀ k cs, T.map (AObj.pub (T.length + k) cs) = T) ∧ (∀ cs, T.map (AObj.pub T.length cs) = T) := by
  have key : ∀ j, T.length ≤ j → ∀ cs, T.map (AObj.pub j cs) = T := by
    intro j hj cs
    refine (List.map_congr_left fun o ho => ?_).trans (List.map_id T)
    refine pub_woO j cs o ?_
    exact List.map_inj_left.1 ((h.wf (fun i => i == j) fun i hi => by simp; omega).1.trans (List.map_id T).symm) o ho
  exact ⟨fun k cs => key _ (by omega) cs, fun cs => key _ (Nat.le_refl _) cs⟩
theorem Wfs.argp {T : Tbl} {args : List AV} (h : Wfs T args) (a : AV) (ha : a ∈ args) : (∀ k cs, a.pub (T.length + k) cs = a) ∧ (∀ cs, a.pub T.length cs = a) := by
  have key : ∀ j, T.length ≤ j → ∀ cs, a.pub j cs = a := fun j hj cs => pub_wo j cs a (List.map_inj_left.1 ((h.wf (fun i => i == j) fun i hi => by simp; omega).2.trans (List.map_id args).symm) a ha)
  exact ⟨fun k cs => key _ (by omega) cs, fun cs => key _ (Nat.le_refl _) cs⟩
theorem CallA.wfs {P : Program} {G : Nat → AV} {T : Tbl} {K : AV → Tbl → Eff → Prop} {f : FuncId} {args : List AV} (h : Wfs T args → CallA P G f args T K) : CallA P G f args T K := CallA.wf fun w => h ⟨w⟩
end Go.E

namespace Go.Proofs.YtmcbdlefakjpoaaDoor
open Go.E
theorem Tryd.ty0 : tk Tryd.prog 2 = .int .i64 ∧ tsz Tryd.prog 2 = 1 ∧ tby Tryd.prog 2 = 8 ∧ tzr Tryd.prog 2 = some (.int .i64 0) ∧ tak Tryd.prog 2 = some false ∧ tk Tryd.prog 3 = .int .i64 ∧ tsz Tryd.prog 3 = 1 ∧ tby Tryd.prog 3 = 8 ∧ tzr Tryd.prog 3 = some (.int .i64 0) ∧ tak Tryd.prog 3 = some false ∧ tk Tryd.prog 4 = .bool ∧ tsz Tryd.prog 4 = 1 ∧ tby Tryd.prog 4 = 1 ∧ tzr Tryd.prog 4 = some (.bool false) ∧ tak Tryd.prog 4 = some false ∧ tk Tryd.prog 5 = .int .u8 ∧ tsz Tryd.prog 5 = 1 ∧ tby Tryd.prog 5 = 1 ∧ tzr Tryd.prog 5 = some (.int .u8 0) ∧ tak Tryd.prog 5 = some false ∧ tk Tryd.prog 6 = .int .u8 ∧ tsz Tryd.prog 6 = 1 ∧ tby Tryd.prog 6 = 1 ∧ tzr Tryd.prog 6 = some (.int .u8 0) ∧ tak Tryd.prog 6 = some false ∧ tsz Tryd.prog 7 = 4 ∧ tby Tryd.prog 7 = 24 ∧ tzr Tryd.prog 7 = some (.agg #[.int .i64 0, .int .i64 0, .bool false, .int .u8 0]) ∧ tak Tryd.prog 7 = some true ∧ tfo Tryd.prog 7 0 = some 0 ∧ tff Tryd.prog 7 0 = some (0, 2) ∧ tfo Tryd.prog 7 1 = some 1 ∧ tff Tryd.prog 7 1 = some (1, 3) ∧ tfo Tryd.prog 7 2 = some 2 ∧ tff Tryd.prog 7 2 = some (2, 4) ∧ tfo Tryd.prog 7 3 = some 3 ∧ tff Tryd.prog 7 3 = some (3, 6) ∧ tst Tryd.prog 7 = true ∧ tsz Tryd.prog 8 = 4 ∧ tby Tryd.prog 8 = 24 := by refine ⟨?_, ?_, ?_, ?_, ?_, ?_, ?_, ?_, ?_, ?_, ?_, ?_, ?_, ?_, ?_, ?_, ?_, ?_, ?_, ?_, ?_, ?_, ?_, ?_, ?_, ?_, ?_, ?_, ?_, ?_, ?_, ?_, ?_, ?_, ?_, ?_, ?_, ?_, ?_, ?_⟩ <;> kernel_rfl
theorem Tryd.ty1 : tzr Tryd.prog 8 = some (.agg #[.int .i64 0, .int .i64 0, .bool false, .int .u8 0]) ∧ tak Tryd.prog 8 = some true ∧ tfo Tryd.prog 8 0 = some 0 ∧ tff Tryd.prog 8 0 = some (0, 2) ∧ tfo Tryd.prog 8 1 = some 1 ∧ tff Tryd.prog 8 1 = some (1, 3) ∧ tfo Tryd.prog 8 2 = some 2 ∧ tff Tryd.prog 8 2 = some (2, 4) ∧ tfo Tryd.prog 8 3 = some 3 ∧ tff Tryd.prog 8 3 = some (3, 6) ∧ tst Tryd.prog 8 = true ∧ tk Tryd.prog 9 = .string ∧ tsz Tryd.prog 9 = 1 ∧ tby Tryd.prog 9 = 16 ∧ tzr Tryd.prog 9 = some (.string .empty) ∧ tak Tryd.prog 9 = some false ∧ tk Tryd.prog 10 = .string ∧ tsz Tryd.prog 10 = 1 ∧ tby Tryd.prog 10 = 16 ∧ tzr Tryd.prog 10 = some (.string .empty) ∧ tak Tryd.prog 10 = some false ∧ tk Tryd.prog 11 = .string ∧ tsz Tryd.prog 11 = 1 ∧ tby Tryd.prog 11 = 16 ∧ tzr Tryd.prog 11 = some (.string .empty) ∧ tak Tryd.prog 11 = some false ∧ tk Tryd.prog 12 = .int .u64 ∧ tsz Tryd.prog 12 = 1 ∧ tby Tryd.prog 12 = 8 ∧ tzr Tryd.prog 12 = some (.int .u64 0) ∧ tak Tryd.prog 12 = some false ∧ tsz Tryd.prog 13 = 2 ∧ tby Tryd.prog 13 = 24 ∧ tzr Tryd.prog 13 = some (.agg #[.string .empty, .int .u64 0]) ∧ tak Tryd.prog 13 = some true ∧ tfo Tryd.prog 13 0 = some 0 ∧ tff Tryd.prog 13 0 = some (0, 9) ∧ tfo Tryd.prog 13 1 = some 1 ∧ tff Tryd.prog 13 1 = some (1, 12) ∧ tst Tryd.prog 13 = true := by refine ⟨?_, ?_, ?_, ?_, ?_, ?_, ?_, ?_, ?_, ?_, ?_, ?_, ?_, ?_, ?_, ?_, ?_, ?_, ?_, ?_, ?_, ?_, ?_, ?_, ?_, ?_, ?_, ?_, ?_, ?_, ?_, ?_, ?_, ?_, ?_, ?_, ?_, ?_, ?_, ?_⟩ <;> kernel_rfl
theorem Tryd.ty2 : tsz Tryd.prog 14 = 2 ∧ tby Tryd.prog 14 = 24 ∧ tzr Tryd.prog 14 = some (.agg #[.string .empty, .int .u64 0]) ∧ tak Tryd.prog 14 = some true ∧ tfo Tryd.prog 14 0 = some 0 ∧ tff Tryd.prog 14 0 = some (0, 9) ∧ tfo Tryd.prog 14 1 = some 1 ∧ tff Tryd.prog 14 1 = some (1, 12) ∧ tst Tryd.prog 14 = true ∧ tk Tryd.prog 15 = .pointer 119 ∧ tsz Tryd.prog 15 = 1 ∧ tby Tryd.prog 15 = 8 ∧ tzr Tryd.prog 15 = some (.pointer none) ∧ tak Tryd.prog 15 = some false ∧ tk Tryd.prog 16 = .pointer 122 ∧ tsz Tryd.prog 16 = 1 ∧ tby Tryd.prog 16 = 8 ∧ tzr Tryd.prog 16 = some (.pointer none) ∧ tak Tryd.prog 16 = some false ∧ tk Tryd.prog 17 = .pointer 131 ∧ tsz Tryd.prog 17 = 1 ∧ tby Tryd.prog 17 = 8 ∧ tzr Tryd.prog 17 = some (.pointer none) ∧ tak Tryd.prog 17 = some false ∧ tsz Tryd.prog 18 = 1 ∧ tby Tryd.prog 18 = 8 ∧ tzr Tryd.prog 18 = some (.agg #[.pointer none]) ∧ tak Tryd.prog 18 = some true ∧ tfo Tryd.prog 18 0 = some 0 ∧ tff Tryd.prog 18 0 = some (0, 17) ∧ tst Tryd.prog 18 = true ∧ tsz Tryd.prog 19 = 1 ∧ tby Tryd.prog 19 = 8 ∧ tzr Tryd.prog 19 = some (.agg #[.pointer none]) ∧ tak Tryd.prog 19 = some true ∧ tfo Tryd.prog 19 0 = some 0 ∧ tff Tryd.prog 19 0 = some (0, 17) ∧ tst Tryd.prog 19 = true ∧ tsz Tryd.prog 20 = 1 ∧ tby Tryd.prog 20 = 16 := by refine ⟨?_, ?_, ?_, ?_, ?_, ?_, ?_, ?_, ?_, ?_, ?_, ?_, ?_, ?_, ?_, ?_, ?_, ?_, ?_, ?_, ?_, ?_, ?_, ?_, ?_, ?_, ?_, ?_, ?_, ?_, ?_, ?_, ?_, ?_, ?_, ?_, ?_, ?_, ?_, ?_⟩ <;> kernel_rfl
theorem Tryd.ty3 : tzr Tryd.prog 20 = some (.nilIface) ∧ tak Tryd.prog 20 = some false ∧ tk Tryd.prog 21 = .int .i32 ∧ tsz Tryd.prog 21 = 1 ∧ tby Tryd.prog 21 = 4 ∧ tzr Tryd.prog 21 = some (.int .i32 0) ∧ tak Tryd.prog 21 = some false ∧ tk Tryd.prog 22 = .array 32 5 ∧ tsz Tryd.prog 22 = 32 ∧ tby Tryd.prog 22 = 32 ∧ tzr Tryd.prog 22 = some (.agg #[.int .u8 0, .int .u8 0, .int .u8 0, .int .u8 0, .int .u8 0, .int .u8 0, .int .u8 0, .int .u8 0, .int .u8 0, .int .u8 0, .int .u8 0, .int .u8 0, .int .u8 0, .int .u8 0, .int .u8 0, .int .u8 0, .int .u8 0, .int .u8 0, .int .u8 0, .int .u8 0, .int .u8 0, .int .u8 0, .int .u8 0, .int .u8 0, .int .u8 0, .int .u8 0, .int .u8 0, .int .u8 0, .int .u8 0, .int .u8 0, .int .u8 0, .int .u8 0]) ∧ tak Tryd.prog 22 = some true ∧ tst Tryd.prog 22 = false ∧ tk Tryd.prog 23 = .array 32 5 ∧ tsz Tryd.prog 23 = 32 ∧ tby Tryd.prog 23 = 32 ∧ tzr Tryd.prog 23 = some (.agg #[.int .u8 0, .int .u8 0, .int .u8 0, .int .u8 0, .int .u8 0, .int .u8 0, .int .u8 0, .int .u8 0, .int .u8 0, .int .u8 0, .int .u8 0, .int .u8 0, .int .u8 0, .int .u8 0, .int .u8 0, .int .u8 0, .int .u8 0, .int .u8 0, .int .u8 0, .int .u8 0, .int .u8 0, .int .u8 0, .int .u8 0, .int .u8 0, .int .u8 0, .int .u8 0, .int .u8 0, .int .u8 0, .int .u8 0, .int .u8 0, .int .u8 0, .int .u8 0]) ∧ tak Tryd.prog 23 = some true ∧ tst Tryd.prog 23 = false ∧ tk Tryd.prog 24 = .slice 26 ∧ tsz Tryd.prog 24 = 1 ∧ tby Tryd.prog 24 = 24 ∧ tzr Tryd.prog 24 = some (.slice none 0 0) ∧ tak Tryd.prog 24 = some false ∧ tk Tryd.prog 25 = .slice 5 ∧ tsz Tryd.prog 25 = 1 ∧ tby Tryd.prog 25 = 24 ∧ tzr Tryd.prog 25 = some (.slice none 0 0) ∧ tak Tryd.prog 25 = some false ∧ tk Tryd.prog 26 = .int .u16 ∧ tsz Tryd.prog 26 = 1 ∧ tby Tryd.prog 26 = 2 ∧ tzr Tryd.prog 26 = some (.int .u16 0) ∧ tak Tryd.prog 26 = some false ∧ tk Tryd.prog 28 = .slice 23 ∧ tsz Tryd.prog 28 = 1 ∧ tby Tryd.prog 28 = 24 ∧ tzr Tryd.prog 28 = some (.slice none 0 0) ∧ tak Tryd.prog 28 = some false ∧ tk Tryd.prog 30 = .slice 46 := by refine ⟨?_, ?_, ?_, ?_, ?_, ?_, ?_, ?_, ?_, ?_, ?_, ?_, ?_, ?_, ?_, ?_, ?_, ?_, ?_, ?_, ?_, ?_, ?_, ?_, ?_, ?_, ?_, ?_, ?_, ?_, ?_, ?_, ?_, ?_, ?_, ?_, ?_, ?_, ?_, ?_⟩ <;> kernel_rfl
theorem Tryd.ty4 : tsz Tryd.prog 30 = 1 ∧ tby Tryd.prog 30 = 24 ∧ tzr Tryd.prog 30 = some (.slice none 0 0) ∧ tak Tryd.prog 30 = some false ∧ tk Tryd.prog 31 = .int .i64 ∧ tsz Tryd.prog 31 = 1 ∧ tby Tryd.prog 31 = 8 ∧ tzr Tryd.prog 31 = some (.int .i64 0) ∧ tak Tryd.prog 31 = some false ∧ tk Tryd.prog 37 = .slice 25 ∧ tsz Tryd.prog 37 = 1 ∧ tby Tryd.prog 37 = 24 ∧ tzr Tryd.prog 37 = some (.slice none 0 0) ∧ tak Tryd.prog 37 = some false ∧ tk Tryd.prog 45 = .int .u64 ∧ tsz Tryd.prog 45 = 1 ∧ tby Tryd.prog 45 = 8 ∧ tzr Tryd.prog 45 = some (.int .u64 0) ∧ tak Tryd.prog 45 = some false ∧ tk Tryd.prog 46 = .int .u64 ∧ tsz Tryd.prog 46 = 1 ∧ tby Tryd.prog 46 = 8 ∧ tzr Tryd.prog 46 = some (.int .u64 0) ∧ tak Tryd.prog 46 = some false ∧ tk Tryd.prog 50 = .pointer 53 ∧ tsz Tryd.prog 50 = 1 ∧ tby Tryd.prog 50 = 8 ∧ tzr Tryd.prog 50 = some (.pointer none) ∧ tak Tryd.prog 50 = some false ∧ tsz Tryd.prog 52 = 2 ∧ tby Tryd.prog 52 = 32 ∧ tzr Tryd.prog 52 = some (.agg #[.slice none 0 0, .int .i64 0]) ∧ tak Tryd.prog 52 = some true ∧ tfo Tryd.prog 52 0 = some 0 ∧ tff Tryd.prog 52 0 = some (0, 25) ∧ tfo Tryd.prog 52 1 = some 1 ∧ tff Tryd.prog 52 1 = some (1, 3) ∧ tst Tryd.prog 52 = true ∧ tsz Tryd.prog 53 = 2 ∧ tby Tryd.prog 53 = 32 := by refine ⟨?_, ?_, ?_, ?_, ?_, ?_, ?_, ?_, ?_, ?_, ?_, ?_, ?_, ?_, ?_, ?_, ?_, ?_, ?_, ?_, ?_, ?_, ?_, ?_, ?_, ?_, ?_, ?_, ?_, ?_, ?_, ?_, ?_, ?_, ?_, ?_, ?_, ?_, ?_, ?_⟩ <;> kernel_rfl
theorem Tryd.ty5 : tzr Tryd.prog 53 = some (.agg #[.slice none 0 0, .int .i64 0]) ∧ tak Tryd.prog 53 = some true ∧ tfo Tryd.prog 53 0 = some 0 ∧ tff Tryd.prog 53 0 = some (0, 25) ∧ tfo Tryd.prog 53 1 = some 1 ∧ tff Tryd.prog 53 1 = some (1, 3) ∧ tst Tryd.prog 53 = true ∧ tk Tryd.prog 67 = .map 23 3 ∧ tsz Tryd.prog 67 = 1 ∧ tby Tryd.prog 67 = 8 ∧ tzr Tryd.prog 67 = some (.map none) ∧ tak Tryd.prog 67 = some false ∧ tk Tryd.prog 79 = .int .u32 ∧ tsz Tryd.prog 79 = 1 ∧ tby Tryd.prog 79 = 4 ∧ tzr Tryd.prog 79 = some (.int .u32 0) ∧ tak Tryd.prog 79 = some false ∧ tk Tryd.prog 80 = .array 8 79 ∧ tsz Tryd.prog 80 = 8 ∧ tby Tryd.prog 80 = 32 ∧ tzr Tryd.prog 80 = some (.agg #[.int .u32 0, .int .u32 0, .int .u32 0, .int .u32 0, .int .u32 0, .int .u32 0, .int .u32 0, .int .u32 0]) ∧ tak Tryd.prog 80 = some true ∧ tst Tryd.prog 80 = false ∧ tk Tryd.prog 81 = .array 8 79 ∧ tsz Tryd.prog 81 = 8 ∧ tby Tryd.prog 81 = 32 ∧ tzr Tryd.prog 81 = some (.agg #[.int .u32 0, .int .u32 0, .int .u32 0, .int .u32 0, .int .u32 0, .int .u32 0, .int .u32 0, .int .u32 0]) ∧ tak Tryd.prog 81 = some true ∧ tst Tryd.prog 81 = false ∧ tk Tryd.prog 82 = .array 64 5 ∧ tsz Tryd.prog 82 = 64 ∧ tby Tryd.prog 82 = 64 ∧ tzr Tryd.prog 82 = some (.agg #[.int .u8 0, .int .u8 0, .int .u8 0, .int .u8 0, .int .u8 0, .int .u8 0, .int .u8 0, .int .u8 0, .int .u8 0, .int .u8 0, .int .u8 0, .int .u8 0, .int .u8 0, .int .u8 0, .int .u8 0, .int .u8 0, .int .u8 0, .int .u8 0, .int .u8 0, .int .u8 0, .int .u8 0, .int .u8 0, .int .u8 0, .int .u8 0, .int .u8 0, .int .u8 0, .int .u8 0, .int .u8 0, .int .u8 0, .int .u8 0, .int .u8 0, .int .u8 0, .int .u8 0, .int .u8 0, .int .u8 0, .int .u8 0, .int .u8 0, .int .u8 0, .int .u8 0, .int .u8 0, .int .u8 0, .int .u8 0, .int .u8 0, .int .u8 0, .int .u8 0, .int .u8 0, .int .u8 0, .int .u8 0, .int .u8 0, .int .u8 0, .int .u8 0, .int .u8 0, .int .u8 0, .int .u8 0, .int .u8 0, .int .u8 0, .int .u8 0, .int .u8 0, .int .u8 0, .int .u8 0, .int .u8 0, .int .u8 0, .int .u8 0, .int .u8 0]) ∧ tak Tryd.prog 82 = some true ∧ tst Tryd.prog 82 = false ∧ tsz Tryd.prog 83 = 74 ∧ tby Tryd.prog 83 = 112 ∧ tzr Tryd.prog 83 = some (.agg #[.bool false, .int .u32 0, .int .u32 0, .int .u32 0, .int .u32 0, .int .u32 0, .int .u32 0, .int .u32 0, .int .u32 0, .int .u8 0, .int .u8 0, .int .u8 0, .int .u8 0, .int .u8 0, .int .u8 0, .int .u8 0, .int .u8 0, .int .u8 0, .int .u8 0, .int .u8 0, .int .u8 0, .int .u8 0, .int .u8 0, .int .u8 0, .int .u8 0, .int .u8 0, .int .u8 0, .int .u8 0, .int .u8 0, .int .u8 0, .int .u8 0, .int .u8 0, .int .u8 0, .int .u8 0, .int .u8 0, .int .u8 0, .int .u8 0, .int .u8 0, .int .u8 0, .int .u8 0, .int .u8 0, .int .u8 0, .int .u8 0, .int .u8 0, .int .u8 0, .int .u8 0, .int .u8 0, .int .u8 0, .int .u8 0, .int .u8 0, .int .u8 0, .int .u8 0, .int .u8 0, .int .u8 0, .int .u8 0, .int .u8 0, .int .u8 0, .int .u8 0, .int .u8 0, .int .u8 0, .int .u8 0, .int .u8 0, .int .u8 0, .int .u8 0, .int .u8 0, .int .u8 0, .int .u8 0, .int .u8 0, .int .u8 0, .int .u8 0, .int .u8 0, .int .u8 0, .int .u8 0, .int .u64 0]) ∧ tak Tryd.prog 83 = some true ∧ tfo Tryd.prog 83 0 = some 0 := by refine ⟨?_, ?_, ?_, ?_, ?_, ?_, ?_, ?_, ?_, ?_, ?_, ?_, ?_, ?_, ?_, ?_, ?_, ?_, ?_, ?_, ?_, ?_, ?_, ?_, ?_, ?_, ?_, ?_, ?_, ?_, ?_, ?_, ?_, ?_, ?_, ?_, ?_, ?_, ?_, ?_⟩ <;> kernel_rfl
theorem Tryd.ty6 : tff Tryd.prog 83 0 = some (0, 4) ∧ tfo Tryd.prog 83 1 = some 1 ∧ tff Tryd.prog 83 1 = some (1, 81) ∧ tfo Tryd.prog 83 2 = some 9 ∧ tff Tryd.prog 83 2 = some (9, 82) ∧ tfo Tryd.prog 83 3 = some 73 ∧ tff Tryd.prog 83 3 = some (73, 46) ∧ tst Tryd.prog 83 = true ∧ tsz Tryd.prog 84 = 74 ∧ tby Tryd.prog 84 = 112 ∧ tzr Tryd.prog 84 = some (.agg #[.bool false, .int .u32 0, .int .u32 0, .int .u32 0, .int .u32 0, .int .u32 0, .int .u32 0, .int .u32 0, .int .u32 0, .int .u8 0, .int .u8 0, .int .u8 0, .int .u8 0, .int .u8 0, .int .u8 0, .int .u8 0, .int .u8 0, .int .u8 0, .int .u8 0, .int .u8 0, .int .u8 0, .int .u8 0, .int .u8 0, .int .u8 0, .int .u8 0, .int .u8 0, .int .u8 0, .int .u8 0, .int .u8 0, .int .u8 0, .int .u8 0, .int .u8 0, .int .u8 0, .int .u8 0, .int .u8 0, .int .u8 0, .int .u8 0, .int .u8 0, .int .u8 0, .int .u8 0, .int .u8 0, .int .u8 0, .int .u8 0, .int .u8 0, .int .u8 0, .int .u8 0, .int .u8 0, .int .u8 0, .int .u8 0, .int .u8 0, .int .u8 0, .int .u8 0, .int .u8 0, .int .u8 0, .int .u8 0, .int .u8 0, .int .u8 0, .int .u8 0, .int .u8 0, .int .u8 0, .int .u8 0, .int .u8 0, .int .u8 0, .int .u8 0, .int .u8 0, .int .u8 0, .int .u8 0, .int .u8 0, .int .u8 0, .int .u8 0, .int .u8 0, .int .u8 0, .int .u8 0, .int .u64 0]) ∧ tak Tryd.prog 84 = some true ∧ tfo Tryd.prog 84 0 = some 0 ∧ tff Tryd.prog 84 0 = some (0, 4) ∧ tfo Tryd.prog 84 1 = some 1 ∧ tff Tryd.prog 84 1 = some (1, 81) ∧ tfo Tryd.prog 84 2 = some 9 ∧ tff Tryd.prog 84 2 = some (9, 82) ∧ tfo Tryd.prog 84 3 = some 73 ∧ tff Tryd.prog 84 3 = some (73, 46) ∧ tst Tryd.prog 84 = true ∧ tk Tryd.prog 89 = .int .i64 ∧ tsz Tryd.prog 89 = 1 ∧ tby Tryd.prog 89 = 8 ∧ tzr Tryd.prog 89 = some (.int .i64 0) ∧ tak Tryd.prog 89 = some false ∧ tk Tryd.prog 97 = .slice 79 ∧ tsz Tryd.prog 97 = 1 ∧ tby Tryd.prog 97 = 24 ∧ tzr Tryd.prog 97 = some (.slice none 0 0) ∧ tak Tryd.prog 97 = some false ∧ tk Tryd.prog 103 = .pointer 82 ∧ tsz Tryd.prog 103 = 1 ∧ tby Tryd.prog 103 = 8 ∧ tzr Tryd.prog 103 = some (.pointer none) ∧ tak Tryd.prog 103 = some false ∧ tk Tryd.prog 104 = .array 8 5 ∧ tsz Tryd.prog 104 = 8 ∧ tby Tryd.prog 104 = 8 ∧ tzr Tryd.prog 104 = some (.agg #[.int .u8 0, .int .u8 0, .int .u8 0, .int .u8 0, .int .u8 0, .int .u8 0, .int .u8 0, .int .u8 0]) := by refine ⟨?_, ?_, ?_, ?_, ?_, ?_, ?_, ?_, ?_, ?_, ?_, ?_, ?_, ?_, ?_, ?_, ?_, ?_, ?_, ?_, ?_, ?_, ?_, ?_, ?_, ?_, ?_, ?_, ?_, ?_, ?_, ?_, ?_, ?_, ?_, ?_, ?_, ?_, ?_, ?_⟩ <;> kernel_rfl
theorem Tryd.ty7 : tak Tryd.prog 104 = some true ∧ tst Tryd.prog 104 = false ∧ tk Tryd.prog 105 = .int .u64 ∧ tsz Tryd.prog 105 = 1 ∧ tby Tryd.prog 105 = 8 ∧ tzr Tryd.prog 105 = some (.int .u64 0) ∧ tak Tryd.prog 105 = some false ∧ tk Tryd.prog 109 = .pointer 3 ∧ tsz Tryd.prog 109 = 1 ∧ tby Tryd.prog 109 = 8 ∧ tzr Tryd.prog 109 = some (.pointer none) ∧ tak Tryd.prog 109 = some false ∧ tk Tryd.prog 111 = .array 64 79 ∧ tsz Tryd.prog 111 = 64 ∧ tby Tryd.prog 111 = 256 ∧ tzr Tryd.prog 111 = some (.agg #[.int .u32 0, .int .u32 0, .int .u32 0, .int .u32 0, .int .u32 0, .int .u32 0, .int .u32 0, .int .u32 0, .int .u32 0, .int .u32 0, .int .u32 0, .int .u32 0, .int .u32 0, .int .u32 0, .int .u32 0, .int .u32 0, .int .u32 0, .int .u32 0, .int .u32 0, .int .u32 0, .int .u32 0, .int .u32 0, .int .u32 0, .int .u32 0, .int .u32 0, .int .u32 0, .int .u32 0, .int .u32 0, .int .u32 0, .int .u32 0, .int .u32 0, .int .u32 0, .int .u32 0, .int .u32 0, .int .u32 0, .int .u32 0, .int .u32 0, .int .u32 0, .int .u32 0, .int .u32 0, .int .u32 0, .int .u32 0, .int .u32 0, .int .u32 0, .int .u32 0, .int .u32 0, .int .u32 0, .int .u32 0, .int .u32 0, .int .u32 0, .int .u32 0, .int .u32 0, .int .u32 0, .int .u32 0, .int .u32 0, .int .u32 0, .int .u32 0, .int .u32 0, .int .u32 0, .int .u32 0, .int .u32 0, .int .u32 0, .int .u32 0, .int .u32 0]) ∧ tak Tryd.prog 111 = some true ∧ tst Tryd.prog 111 = false ∧ tk Tryd.prog 114 = .pointer 105 ∧ tsz Tryd.prog 114 = 1 ∧ tby Tryd.prog 114 = 8 ∧ tzr Tryd.prog 114 = some (.pointer none) ∧ tak Tryd.prog 114 = some false ∧ tsz Tryd.prog 118 = 4 ∧ tby Tryd.prog 118 = 40 ∧ tzr Tryd.prog 118 = some (.agg #[.pointer none, .pointer none, .pointer none, .string .empty]) ∧ tak Tryd.prog 118 = some true ∧ tfo Tryd.prog 118 0 = some 0 ∧ tff Tryd.prog 118 0 = some (0, 17) ∧ tfo Tryd.prog 118 1 = some 1 ∧ tff Tryd.prog 118 1 = some (1, 17) ∧ tfo Tryd.prog 118 2 = some 2 ∧ tff Tryd.prog 118 2 = some (2, 17) ∧ tfo Tryd.prog 118 3 = some 3 ∧ tff Tryd.prog 118 3 = some (3, 9) ∧ tst Tryd.prog 118 = true ∧ tsz Tryd.prog 119 = 4 ∧ tby Tryd.prog 119 = 40 ∧ tzr Tryd.prog 119 = some (.agg #[.pointer none, .pointer none, .pointer none, .string .empty]) ∧ tak Tryd.prog 119 = some true := by refine ⟨?_, ?_, ?_, ?_, ?_, ?_, ?_, ?_, ?_, ?_, ?_, ?_, ?_, ?_, ?_, ?_, ?_, ?_, ?_, ?_, ?_, ?_, ?_, ?_, ?_, ?_, ?_, ?_, ?_, ?_, ?_, ?_, ?_, ?_, ?_, ?_, ?_, ?_, ?_, ?_⟩ <;> kernel_rfl
theorem Tryd.ty8 : tfo Tryd.prog 119 0 = some 0 ∧ tff Tryd.prog 119 0 = some (0, 17) ∧ tfo Tryd.prog 119 1 = some 1 ∧ tff Tryd.prog 119 1 = some (1, 17) ∧ tfo Tryd.prog 119 2 = some 2 ∧ tff Tryd.prog 119 2 = some (2, 17) ∧ tfo Tryd.prog 119 3 = some 3 ∧ tff Tryd.prog 119 3 = some (3, 9) ∧ tst Tryd.prog 119 = true ∧ tk Tryd.prog 120 = .array 0 16 ∧ tst Tryd.prog 120 = false ∧ tst Tryd.prog 121 = false ∧ tst Tryd.prog 122 = false ∧ tk Tryd.prog 124 = .int .u8 ∧ tsz Tryd.prog 124 = 1 ∧ tby Tryd.prog 124 = 1 ∧ tzr Tryd.prog 124 = some (.int .u8 0) ∧ tak Tryd.prog 124 = some false ∧ tk Tryd.prog 125 = .int .u8 ∧ tsz Tryd.prog 125 = 1 ∧ tby Tryd.prog 125 = 1 ∧ tzr Tryd.prog 125 = some (.int .u8 0) ∧ tak Tryd.prog 125 = some false ∧ tk Tryd.prog 127 = .pointer 5 ∧ tsz Tryd.prog 127 = 1 ∧ tby Tryd.prog 127 = 8 ∧ tzr Tryd.prog 127 = some (.pointer none) ∧ tak Tryd.prog 127 = some false ∧ tk Tryd.prog 128 = .int .i32 ∧ tsz Tryd.prog 128 = 1 ∧ tby Tryd.prog 128 = 4 ∧ tzr Tryd.prog 128 = some (.int .i32 0) ∧ tak Tryd.prog 128 = some false ∧ tk Tryd.prog 129 = .int .i32 ∧ tsz Tryd.prog 129 = 1 ∧ tby Tryd.prog 129 = 4 ∧ tzr Tryd.prog 129 = some (.int .i32 0) ∧ tak Tryd.prog 129 = some false ∧ tsz Tryd.prog 130 = 11 ∧ tby Tryd.prog 130 = 48 := by refine ⟨?_, ?_, ?_, ?_, ?_, ?_, ?_, ?_, ?_, ?_, ?_, ?_, ?_, ?_, ?_, ?_, ?_, ?_, ?_, ?_, ?_, ?_, ?_, ?_, ?_, ?_, ?_, ?_, ?_, ?_, ?_, ?_, ?_, ?_, ?_, ?_, ?_, ?_, ?_, ?_⟩ <;> kernel_rfl
theorem Tryd.ty9 : tzr Tryd.prog 130 = some (.agg #[.int .u64 0, .int .u64 0, .int .u32 0, .int .u8 0, .int .u8 0, .int .u8 0, .int .u8 0, .nilFunc, .pointer none, .int .i32 0, .int .i32 0]) ∧ tak Tryd.prog 130 = some true ∧ tfo Tryd.prog 130 0 = some 0 ∧ tff Tryd.prog 130 0 = some (0, 12) ∧ tfo Tryd.prog 130 1 = some 1 ∧ tff Tryd.prog 130 1 = some (1, 12) ∧ tfo Tryd.prog 130 2 = some 2 ∧ tff Tryd.prog 130 2 = some (2, 79) ∧ tfo Tryd.prog 130 3 = some 3 ∧ tff Tryd.prog 130 3 = some (3, 124) ∧ tfo Tryd.prog 130 4 = some 4 ∧ tff Tryd.prog 130 4 = some (4, 5) ∧ tfo Tryd.prog 130 5 = some 5 ∧ tff Tryd.prog 130 5 = some (5, 5) ∧ tfo Tryd.prog 130 6 = some 6 ∧ tff Tryd.prog 130 6 = some (6, 125) ∧ tfo Tryd.prog 130 7 = some 7 ∧ tff Tryd.prog 130 7 = some (7, 126) ∧ tfo Tryd.prog 130 8 = some 8 ∧ tff Tryd.prog 130 8 = some (8, 127) ∧ tfo Tryd.prog 130 9 = some 9 ∧ tff Tryd.prog 130 9 = some (9, 128) ∧ tfo Tryd.prog 130 10 = some 10 ∧ tff Tryd.prog 130 10 = some (10, 129) ∧ tst Tryd.prog 130 = true ∧ tsz Tryd.prog 131 = 11 ∧ tby Tryd.prog 131 = 48 ∧ tzr Tryd.prog 131 = some (.agg #[.int .u64 0, .int .u64 0, .int .u32 0, .int .u8 0, .int .u8 0, .int .u8 0, .int .u8 0, .nilFunc, .pointer none, .int .i32 0, .int .i32 0]) ∧ tak Tryd.prog 131 = some true ∧ tfo Tryd.prog 131 0 = some 0 ∧ tff Tryd.prog 131 0 = some (0, 12) ∧ tfo Tryd.prog 131 1 = some 1 ∧ tff Tryd.prog 131 1 = some (1, 12) ∧ tfo Tryd.prog 131 2 = some 2 ∧ tff Tryd.prog 131 2 = some (2, 79) ∧ tfo Tryd.prog 131 3 = some 3 ∧ tff Tryd.prog 131 3 = some (3, 124) ∧ tfo Tryd.prog 131 4 = some 4 ∧ tff Tryd.prog 131 4 = some (4, 5) ∧ tfo Tryd.prog 131 5 = some 5 := by refine ⟨?_, ?_, ?_, ?_, ?_, ?_, ?_, ?_, ?_, ?_, ?_, ?_, ?_, ?_, ?_, ?_, ?_, ?_, ?_, ?_, ?_, ?_, ?_, ?_, ?_, ?_, ?_, ?_, ?_, ?_, ?_, ?_, ?_, ?_, ?_, ?_, ?_, ?_, ?_, ?_⟩ <;> kernel_rfl
theorem Tryd.ty10 : tff Tryd.prog 131 5 = some (5, 5) ∧ tfo Tryd.prog 131 6 = some 6 ∧ tff Tryd.prog 131 6 = some (6, 125) ∧ tfo Tryd.prog 131 7 = some 7 ∧ tff Tryd.prog 131 7 = some (7, 126) ∧ tfo Tryd.prog 131 8 = some 8 ∧ tff Tryd.prog 131 8 = some (8, 127) ∧ tfo Tryd.prog 131 9 = some 9 ∧ tff Tryd.prog 131 9 = some (9, 128) ∧ tfo Tryd.prog 131 10 = some 10 ∧ tff Tryd.prog 131 10 = some (10, 129) ∧ tst Tryd.prog 131 = true ∧ tsz Tryd.prog 132 = 1 ∧ tby Tryd.prog 132 = 8 ∧ tzr Tryd.prog 132 = some (.pointer none) ∧ tak Tryd.prog 132 = some false := by refine ⟨?_, ?_, ?_, ?_, ?_, ?_, ?_, ?_, ?_, ?_, ?_, ?_, ?_, ?_, ?_, ?_⟩ <;> kernel_rfl
theorem Tryd.ty : (tk Tryd.prog 2 = .int .i64 ∧ tsz Tryd.prog 2 = 1 ∧ tby Tryd.prog 2 = 8 ∧ tzr Tryd.prog 2 = some (.int .i64 0) ∧ tak Tryd.prog 2 = some false ∧ tk Tryd.prog 3 = .int .i64 ∧ tsz Tryd.prog 3 = 1 ∧ tby Tryd.prog 3 = 8 ∧ tzr Tryd.prog 3 = some (.int .i64 0) ∧ tak Tryd.prog 3 = some false ∧ tk Tryd.prog 4 = .bool ∧ tsz Tryd.prog 4 = 1 ∧ tby Tryd.prog 4 = 1 ∧ tzr Tryd.prog 4 = some (.bool false) ∧ tak Tryd.prog 4 = some false ∧ tk Tryd.prog 5 = .int .u8 ∧ tsz Tryd.prog 5 = 1 ∧ tby Tryd.prog 5 = 1 ∧ tzr Tryd.prog 5 = some (.int .u8 0) ∧ tak Tryd.prog 5 = some false ∧ tk Tryd.prog 6 = .int .u8 ∧ tsz Tryd.prog 6 = 1 ∧ tby Tryd.prog 6 = 1 ∧ tzr Tryd.prog 6 = some (.int .u8 0) ∧ tak Tryd.prog 6 = some false ∧ tsz Tryd.prog 7 = 4 ∧ tby Tryd.prog 7 = 24 ∧ tzr Tryd.prog 7 = some (.agg #[.int .i64 0, .int .i64 0, .bool false, .int .u8 0]) ∧ tak Tryd.prog 7 = some true ∧ tfo Tryd.prog 7 0 = some 0 ∧ tff Tryd.prog 7 0 = some (0, 2) ∧ tfo Tryd.prog 7 1 = some 1 ∧ tff Tryd.prog 7 1 = some (1, 3) ∧ tfo Tryd.prog 7 2 = some 2 ∧ tff Tryd.prog 7 2 = some (2, 4) ∧ tfo Tryd.prog 7 3 = some 3 ∧ tff Tryd.prog 7 3 = some (3, 6) ∧ tst Tryd.prog 7 = true ∧ tsz Tryd.prog 8 = 4 ∧ tby Tryd.prog 8 = 24) ∧ (tzr Tryd.prog 8 = some (.agg #[.int .i64 0, .int .i64 0, .bool false, .int .u8 0]) ∧ tak Tryd.prog 8 = some true ∧ tfo Tryd.prog 8 0 = some 0 ∧ tff Tryd.prog 8 0 = some (0, 2) ∧ tfo Tryd.prog 8 1 = some 1 ∧ tff Tryd.prog 8 1 = some (1, 3) ∧ tfo Tryd.prog 8 2 = some 2 ∧ tff Tryd.prog 8 2 = some (2, 4) ∧ tfo Tryd.prog 8 3 = some 3 ∧ tff Tryd.prog 8 3 = some (3, 6) ∧ tst Tryd.prog 8 = true ∧ tk Tryd.prog 9 = .string ∧ tsz Tryd.prog 9 = 1 ∧ tby Tryd.prog 9 = 16 ∧ tzr Tryd.prog 9 = some (.string .empty) ∧ tak Tryd.prog 9 = some false ∧ tk Tryd.prog 10 = .string ∧ tsz Tryd.prog 10 = 1 ∧ tby Tryd.prog 10 = 16 ∧ tzr Tryd.prog 10 = some (.string .empty) ∧ tak Tryd.prog 10 = some false ∧ tk Tryd.prog 11 = .string ∧ tsz Tryd.prog 11 = 1 ∧ tby Tryd.prog 11 = 16 ∧ tzr Tryd.prog 11 = some (.string .empty) ∧ tak Tryd.prog 11 = some false ∧ tk Tryd.prog 12 = .int .u64 ∧ tsz Tryd.prog 12 = 1 ∧ tby Tryd.prog 12 = 8 ∧ tzr Tryd.prog 12 = some (.int .u64 0) ∧ tak Tryd.prog 12 = some false ∧ tsz Tryd.prog 13 = 2 ∧ tby Tryd.prog 13 = 24 ∧ tzr Tryd.prog 13 = some (.agg #[.string .empty, .int .u64 0]) ∧ tak Tryd.prog 13 = some true ∧ tfo Tryd.prog 13 0 = some 0 ∧ tff Tryd.prog 13 0 = some (0, 9) ∧ tfo Tryd.prog 13 1 = some 1 ∧ tff Tryd.prog 13 1 = some (1, 12) ∧ tst Tryd.prog 13 = true) ∧ (tsz Tryd.prog 14 = 2 ∧ tby Tryd.prog 14 = 24 ∧ tzr Tryd.prog 14 = some (.agg #[.string .empty, .int .u64 0]) ∧ tak Tryd.prog 14 = some true ∧ tfo Tryd.prog 14 0 = some 0 ∧ tff Tryd.prog 14 0 = some (0, 9) ∧ tfo Tryd.prog 14 1 = some 1 ∧ tff Tryd.prog 14 1 = some (1, 12) ∧ tst Tryd.prog 14 = true ∧ tk Tryd.prog 15 = .pointer 119 ∧ tsz Tryd.prog 15 = 1 ∧ tby Tryd.prog 15 = 8 ∧ tzr Tryd.prog 15 = some (.pointer none) ∧ tak Tryd.prog 15 = some false ∧ tk Tryd.prog 16 = .pointer 122 ∧ tsz Tryd.prog 16 = 1 ∧ tby Tryd.prog 16 = 8 ∧ tzr Tryd.prog 16 = some (.pointer none) ∧ tak Tryd.prog 16 = some false ∧ tk Tryd.prog 17 = .pointer 131 ∧ tsz Tryd.prog 17 = 1 ∧ tby Tryd.prog 17 = 8 ∧ tzr Tryd.prog 17 = some (.pointer none) ∧ tak Tryd.prog 17 = some false ∧ tsz Tryd.prog 18 = 1 ∧ tby Tryd.prog 18 = 8 ∧ tzr Tryd.prog 18 = some (.agg #[.pointer none]) ∧ tak Tryd.prog 18 = some true ∧ tfo Tryd.prog 18 0 = some 0 ∧ tff Tryd.prog 18 0 = some (0, 17) ∧ tst Tryd.prog 18 = true ∧ tsz Tryd.prog 19 = 1 ∧ tby Tryd.prog 19 = 8 ∧ tzr Tryd.prog 19 = some (.agg #[.pointer none]) ∧ tak Tryd.prog 19 = some true ∧ tfo Tryd.prog 19 0 = some 0 ∧ tff Tryd.prog 19 0 = some (0, 17) ∧ tst Tryd.prog 19 = true ∧ tsz Tryd.prog 20 = 1 ∧ tby Tryd.prog 20 = 16) ∧ (tzr Tryd.prog 20 = some (.nilIface) ∧ tak Tryd.prog 20 = some false ∧ tk Tryd.prog 21 = .int .i32 ∧ tsz Tryd.prog 21 = 1 ∧ tby Tryd.prog 21 = 4 ∧ tzr Tryd.prog 21 = some (.int .i32 0) ∧ tak Tryd.prog 21 = some false ∧ tk Tryd.prog 22 = .array 32 5 ∧ tsz Tryd.prog 22 = 32 ∧ tby Tryd.prog 22 = 32 ∧ tzr Tryd.prog 22 = some (.agg #[.int .u8 0, .int .u8 0, .int .u8 0, .int .u8 0, .int .u8 0, .int .u8 0, .int .u8 0, .int .u8 0, .int .u8 0, .int .u8 0, .int .u8 0, .int .u8 0, .int .u8 0, .int .u8 0, .int .u8 0, .int .u8 0, .int .u8 0, .int .u8 0, .int .u8 0, .int .u8 0, .int .u8 0, .int .u8 0, .int .u8 0, .int .u8 0, .int .u8 0, .int .u8 0, .int .u8 0, .int .u8 0, .int .u8 0, .int .u8 0, .int .u8 0, .int .u8 0]) ∧ tak Tryd.prog 22 = some true ∧ tst Tryd.prog 22 = false ∧ tk Tryd.prog 23 = .array 32 5 ∧ tsz Tryd.prog 23 = 32 ∧ tby Tryd.prog 23 = 32 ∧ tzr Tryd.prog 23 = some (.agg #[.int .u8 0, .int .u8 0, .int .u8 0, .int .u8 0, .int .u8 0, .int .u8 0, .int .u8 0, .int .u8 0, .int .u8 0, .int .u8 0, .int .u8 0, .int .u8 0, .int .u8 0, .int .u8 0, .int .u8 0, .int .u8 0, .int .u8 0, .int .u8 0, .int .u8 0, .int .u8 0, .int .u8 0, .int .u8 0, .int .u8 0, .int .u8 0, .int .u8 0, .int .u8 0, .int .u8 0, .int .u8 0, .int .u8 0, .int .u8 0, .int .u8 0, .int .u8 0]) ∧ tak Tryd.prog 23 = some true ∧ tst Tryd.prog 23 = false ∧ tk Tryd.prog 24 = .slice 26 ∧ tsz Tryd.prog 24 = 1 ∧ tby Tryd.prog 24 = 24 ∧ tzr Tryd.prog 24 = some (.slice none 0 0) ∧ tak Tryd.prog 24 = some false ∧ tk Tryd.prog 25 = .slice 5 ∧ tsz Tryd.prog 25 = 1 ∧ tby Tryd.prog 25 = 24 ∧ tzr Tryd.prog 25 = some (.slice none 0 0) ∧ tak Tryd.prog 25 = some false ∧ tk Tryd.prog 26 = .int .u16 ∧ tsz Tryd.prog 26 = 1 ∧ tby Tryd.prog 26 = 2 ∧ tzr Tryd.prog 26 = some (.int .u16 0) ∧ tak Tryd.prog 26 = some false ∧ tk Tryd.prog 28 = .slice 23 ∧ tsz Tryd.prog 28 = 1 ∧ tby Tryd.prog 28 = 24 ∧ tzr Tryd.prog 28 = some (.slice none 0 0) ∧ tak Tryd.prog 28 = some false ∧ tk Tryd.prog 30 = .slice 46) ∧ (tsz Tryd.prog 30 = 1 ∧ tby Tryd.prog 30 = 24 ∧ tzr Tryd.prog 30 = some (.slice none 0 0) ∧ tak Tryd.prog 30 = some false ∧ tk Tryd.prog 31 = .int .i64 ∧ tsz Tryd.prog 31 = 1 ∧ tby Tryd.prog 31 = 8 ∧ tzr Tryd.prog 31 = some (.int .i64 0) ∧ tak Tryd.prog 31 = some false ∧ tk Tryd.prog 37 = .slice 25 ∧ tsz Tryd.prog 37 = 1 ∧ tby Tryd.prog 37 = 24 ∧ tzr Tryd.prog 37 = some (.slice none 0 0) ∧ tak Tryd.prog 37 = some false ∧ tk Tryd.prog 45 = .int .u64 ∧ tsz Tryd.prog 45 = 1 ∧ tby Tryd.prog 45 = 8 ∧ tzr Tryd.prog 45 = some (.int .u64 0) ∧ tak Tryd.prog 45 = some false ∧ tk Tryd.prog 46 = .int .u64 ∧ tsz Tryd.prog 46 = 1 ∧ tby Tryd.prog 46 = 8 ∧ tzr Tryd.prog 46 = some (.int .u64 0) ∧ tak Tryd.prog 46 = some false ∧ tk Tryd.prog 50 = .pointer 53 ∧ tsz Tryd.prog 50 = 1 ∧ tby Tryd.prog 50 = 8 ∧ tzr Tryd.prog 50 = some (.pointer none) ∧ tak Tryd.prog 50 = some false ∧ tsz Tryd.prog 52 = 2 ∧ tby Tryd.prog 52 = 32 ∧ tzr Tryd.prog 52 = some (.agg #[.slice none 0 0, .int .i64 0]) ∧ tak Tryd.prog 52 = some true ∧ tfo Tryd.prog 52 0 = some 0 ∧ tff Tryd.prog 52 0 = some (0, 25) ∧ tfo Tryd.prog 52 1 = some 1 ∧ tff Tryd.prog 52 1 = some (1, 3) ∧ tst Tryd.prog 52 = true ∧ tsz Tryd.prog 53 = 2 ∧ tby Tryd.prog 53 = 32) ∧ (tzr Tryd.prog 53 = some (.agg #[.slice none 0 0, .int .i64 0]) ∧ tak Tryd.prog 53 = some true ∧ tfo Tryd.prog 53 0 = some 0 ∧ tff Tryd.prog 53 0 = some (0, 25) ∧ tfo Tryd.prog 53 1 = some 1 ∧ tff Tryd.prog 53 1 = some (1, 3) ∧ tst Tryd.prog 53 = true ∧ tk Tryd.prog 67 = .map 23 3 ∧ tsz Tryd.prog 67 = 1 ∧ tby Tryd.prog 67 = 8 ∧ tzr Tryd.prog 67 = some (.map none) ∧ tak Tryd.prog 67 = some false ∧ tk Tryd.prog 79 = .int .u32 ∧ tsz Tryd.prog 79 = 1 ∧ tby Tryd.prog 79 = 4 ∧ tzr Tryd.prog 79 = some (.int .u32 0) ∧ tak Tryd.prog 79 = some false ∧ tk Tryd.prog 80 = .array 8 79 ∧ tsz Tryd.prog 80 = 8 ∧ tby Tryd.prog 80 = 32 ∧ tzr Tryd.prog 80 = some (.agg #[.int .u32 0, .int .u32 0, .int .u32 0, .int .u32 0, .int .u32 0, .int .u32 0, .int .u32 0, .int .u32 0]) ∧ tak Tryd.prog 80 = some true ∧ tst Tryd.prog 80 = false ∧ tk Tryd.prog 81 = .array 8 79 ∧ tsz Tryd.prog 81 = 8 ∧ tby Tryd.prog 81 = 32 ∧ tzr Tryd.prog 81 = some (.agg #[.int .u32 0, .int .u32 0, .int .u32 0, .int .u32 0, .int .u32 0, .int .u32 0, .int .u32 0, .int .u32 0]) ∧ tak Tryd.prog 81 = some true ∧ tst Tryd.prog 81 = false ∧ tk Tryd.prog 82 = .array 64 5 ∧ tsz Tryd.prog 82 = 64 ∧ tby Tryd.prog 82 = 64 ∧ tzr Tryd.prog 82 = some (.agg #[.int .u8 0, .int .u8 0, .int .u8 0, .int .u8 0, .int .u8 0, .int .u8 0, .int .u8 0, .int .u8 0, .int .u8 0, .int .u8 0, .int .u8 0, .int .u8 0, .int .u8 0, .int .u8 0, .int .u8 0, .int .u8 0, .int .u8 0, .int .u8 0, .int .u8 0, .int .u8 0, .int .u8 0, .int .u8 0, .int .u8 0, .int .u8 0, .int .u8 0, .int .u8 0, .int .u8 0, .int .u8 0, .int .u8 0, .int .u8 0, .int .u8 0, .int .u8 0, .int .u8 0, .int .u8 0, .int .u8 0, .int .u8 0, .int .u8 0, .int .u8 0, .int .u8 0, .int .u8 0, .int .u8 0, .int .u8 0, .int .u8 0, .int .u8 0, .int .u8 0, .int .u8 0, .int .u8 0, .int .u8 0, .int .u8 0, .int .u8 0, .int .u8 0, .int .u8 0, .int .u8 0, .int .u8 0, .int .u8 0, .int .u8 0, .int .u8 0, .int .u8 0, .int .u8 0, .int .u8 0, .int .u8 0, .int .u8 0, .int .u8 0, .int .u8 0]) ∧ tak Tryd.prog 82 = some true ∧ tst Tryd.prog 82 = false ∧ tsz Tryd.prog 83 = 74 ∧ tby Tryd.prog 83 = 112 ∧ tzr Tryd.prog 83 = some (.agg #[.bool false, .int .u32 0, .int .u32 0, .int .u32 0, .int .u32 0, .int .u32 0, .int .u32 0, .int .u32 0, .int .u32 0, .int .u8 0, .int .u8 0, .int .u8 0, .int .u8 0, .int .u8 0, .int .u8 0, .int .u8 0, .int .u8 0, .int .u8 0, .int .u8 0, .int .u8 0, .int .u8 0, .int .u8 0, .int .u8 0, .int .u8 0, .int .u8 0, .int .u8 0, .int .u8 0, .int .u8 0, .int .u8 0, .int .u8 0, .int .u8 0, .int .u8 0, .int .u8 0, .int .u8 0, .int .u8 0, .int .u8 0, .int .u8 0, .int .u8 0, .int .u8 0, .int .u8 0, .int .u8 0, .int .u8 0, .int .u8 0, .int .u8 0, .int .u8 0, .int .u8 0, .int .u8 0, .int .u8 0, .int .u8 0, .int .u8 0, .int .u8 0, .int .u8 0, .int .u8 0, .int .u8 0, .int .u8 0, .int .u8 0, .int .u8 0, .int .u8 0, .int .u8 0, .int .u8 0, .int .u8 0, .int .u8 0, .int .u8 0, .int .u8 0, .int .u8 0, .int .u8 0, .int .u8 0, .int .u8 0, .int .u8 0, .int .u8 0, .int .u8 0, .int .u8 0, .int .u8 0, .int .u64 0]) ∧ tak Tryd.prog 83 = some true ∧ tfo Tryd.prog 83 0 = some 0) ∧ (tff Tryd.prog 83 0 = some (0, 4) ∧ tfo Tryd.prog 83 1 = some 1 ∧ tff Tryd.prog 83 1 = some (1, 81) ∧ tfo Tryd.prog 83 2 = some 9 ∧ tff Tryd.prog 83 2 = some (9, 82) ∧ tfo Tryd.prog 83 3 = some 73 ∧ tff Tryd.prog 83 3 = some (73, 46) ∧ tst Tryd.prog 83 = true ∧ tsz Tryd.prog 84 = 74 ∧ tby Tryd.prog 84 = 112 ∧ tzr Tryd.prog 84 = some (.agg #[.bool false, .int .u32 0, .int .u32 0, .int .u32 0, .int .u32 0, .int .u32 0, .int .u32 0, .int .u32 0, .int .u32 0, .int .u8 0, .int .u8 0, .int .u8 0, .int .u8 0, .int .u8 0, .int .u8 0, .int .u8 0, .int .u8 0, .int .u8 0, .int .u8 0, .int .u8 0, .int .u8 0, .int .u8 0, .int .u8 0, .int .u8 0, .int .u8 0, .int .u8 0, .int .u8 0, .int .u8 0, .int .u8 0, .int .u8 0, .int .u8 0, .int .u8 0, .int .u8 0, .int .u8 0, .int .u8 0, .int .u8 0, .int .u8 0, .int .u8 0, .int .u8 0, .int .u8 0, .int .u8 0, .int .u8 0, .int .u8 0, .int .u8 0, .int .u8 0, .int .u8 0, .int .u8 0, .int .u8 0, .int .u8 0, .int .u8 0, .int .u8 0, .int .u8 0, .int .u8 0, .int .u8 0, .int .u8 0, .int .u8 0, .int .u8 0, .int .u8 0, .int .u8 0, .int .u8 0, .int .u8 0, .int .u8 0, .int .u8 0, .int .u8 0, .int .u8 0, .int .u8 0, .int .u8 0, .int .u8 0, .int .u8 0, .int .u8 0, .int .u8 0, .int .u8 0, .int .u8 0, .int .u64 0]) ∧ tak Tryd.prog 84 = some true ∧ tfo Tryd.prog 84 0 = some 0 ∧ tff Tryd.prog 84 0 = some (0, 4) ∧ tfo Tryd.prog 84 1 = some 1 ∧ tff Tryd.prog 84 1 = some (1, 81) ∧ tfo Tryd.prog 84 2 = some 9 ∧ tff Tryd.prog 84 2 = some (9, 82) ∧ tfo Tryd.prog 84 3 = some 73 ∧ tff Tryd.prog 84 3 = some (73, 46) ∧ tst Tryd.prog 84 = true ∧ tk Tryd.prog 89 = .int .i64 ∧ tsz Tryd.prog 89 = 1 ∧ tby Tryd.prog 89 = 8 ∧ tzr Tryd.prog 89 = some (.int .i64 0) ∧ tak Tryd.prog 89 = some false ∧ tk Tryd.prog 97 = .slice 79 ∧ tsz Tryd.prog 97 = 1 ∧ tby Tryd.prog 97 = 24 ∧ tzr Tryd.prog 97 = some (.slice none 0 0) ∧ tak Tryd.prog 97 = some false ∧ tk Tryd.prog 103 = .pointer 82 ∧ tsz Tryd.prog 103 = 1 ∧ tby Tryd.prog 103 = 8 ∧ tzr Tryd.prog 103 = some (.pointer none) ∧ tak Tryd.prog 103 = some false ∧ tk Tryd.prog 104 = .array 8 5 ∧ tsz Tryd.prog 104 = 8 ∧ tby Tryd.prog 104 = 8 ∧ tzr Tryd.prog 104 = some (.agg #[.int .u8 0, .int .u8 0, .int .u8 0, .int .u8 0, .int .u8 0, .int .u8 0, .int .u8 0, .int .u8 0])) ∧ (tak Tryd.prog 104 = some true ∧ tst Tryd.prog 104 = false ∧ tk Tryd.prog 105 = .int .u64 ∧ tsz Tryd.prog 105 = 1 ∧ tby Tryd.prog 105 = 8 ∧ tzr Tryd.prog 105 = some (.int .u64 0) ∧ tak Tryd.prog 105 = some false ∧ tk Tryd.prog 109 = .pointer 3 ∧ tsz Tryd.prog 109 = 1 ∧ tby Tryd.prog 109 = 8 ∧ tzr Tryd.prog 109 = some (.pointer none) ∧ tak Tryd.prog 109 = some false ∧ tk Tryd.prog 111 = .array 64 79 ∧ tsz Tryd.prog 111 = 64 ∧ tby Tryd.prog 111 = 256 ∧ tzr Tryd.prog 111 = some (.agg #[.int .u32 0, .int .u32 0, .int .u32 0, .int .u32 0, .int .u32 0, .int .u32 0, .int .u32 0, .int .u32 0, .int .u32 0, .int .u32 0, .int .u32 0, .int .u32 0, .int .u32 0, .int .u32 0, .int .u32 0, .int .u32 0, .int .u32 0, .int .u32 0, .int .u32 0, .int .u32 0, .int .u32 0, .int .u32 0, .int .u32 0, .int .u32 0, .int .u32 0, .int .u32 0, .int .u32 0, .int .u32 0, .int .u32 0, .int .u32 0, .int .u32 0, .int .u32 0, .int .u32 0, .int .u32 0, .int .u32 0, .int .u32 0, .int .u32 0, .int .u32 0, .int .u32 0, .int .u32 0, .int .u32 0, .int .u32 0, .int .u32 0, .int .u32 0, .int .u32 0, .int .u32 0, .int .u32 0, .int .u32 0, .int .u32 0, .int .u32 0, .int .u32 0, .int .u32 0, .int .u32 0, .int .u32 0, .int .u32 0, .int .u32 0, .int .u32 0, .int .u32 0, .int .u32 0, .int .u32 0, .int .u32 0, .int .u32 0, .int .u32 0, .int .u32 0]) ∧ tak Tryd.prog 111 = some true ∧ tst Tryd.prog 111 = false ∧ tk Tryd.prog 114 = .pointer 105 ∧ tsz Tryd.prog 114 = 1 ∧ tby Tryd.prog 114 = 8 ∧ tzr Tryd.prog 114 = some (.pointer none) ∧ tak Tryd.prog 114 = some false ∧ tsz Tryd.prog 118 = 4 ∧ tby Tryd.prog 118 = 40 ∧ tzr Tryd.prog 118 = some (.agg #[.pointer none, .pointer none, .pointer none, .string .empty]) ∧ tak Tryd.prog 118 = some true ∧ tfo Tryd.prog 118 0 = some 0 ∧ tff Tryd.prog 118 0 = some (0, 17) ∧ tfo Tryd.prog 118 1 = some 1 ∧ tff Tryd.prog 118 1 = some (1, 17) ∧ tfo Tryd.prog 118 2 = some 2 ∧ tff Tryd.prog 118 2 = some (2, 17) ∧ tfo Tryd.prog 118 3 = some 3 ∧ tff Tryd.prog 118 3 = some (3, 9) ∧ tst Tryd.prog 118 = true ∧ tsz Tryd.prog 119 = 4 ∧ tby Tryd.prog 119 = 40 ∧ tzr Tryd.prog 119 = some (.agg #[.pointer none, .pointer none, .pointer none, .string .empty]) ∧ tak Tryd.prog 119 = some true) ∧ (tfo Tryd.prog 119 0 = some 0 ∧ tff Tryd.prog 119 0 = some (0, 17) ∧ tfo Tryd.prog 119 1 = some 1 ∧ tff Tryd.prog 119 1 = some (1, 17) ∧ tfo Tryd.prog 119 2 = some 2 ∧ tff Tryd.prog 119 2 = some (2, 17) ∧ tfo Tryd.prog 119 3 = some 3 ∧ tff Tryd.prog 119 3 = some (3, 9) ∧ tst Tryd.prog 119 = true ∧ tk Tryd.prog 120 = .array 0 16 ∧ tst Tryd.prog 120 = false ∧ tst Tryd.prog 121 = false ∧ tst Tryd.prog 122 = false ∧ tk Tryd.prog 124 = .int .u8 ∧ tsz Tryd.prog 124 = 1 ∧ tby Tryd.prog 124 = 1 ∧ tzr Tryd.prog 124 = some (.int .u8 0) ∧ tak Tryd.prog 124 = some false ∧ tk Tryd.prog 125 = .int .u8 ∧ tsz Tryd.prog 125 = 1 ∧ tby Tryd.prog 125 = 1 ∧ tzr Tryd.prog 125 = some (.int .u8 0) ∧ tak Tryd.prog 125 = some false ∧ tk Tryd.prog 127 = .pointer 5 ∧ tsz Tryd.prog 127 = 1 ∧ tby Tryd.prog 127 = 8 ∧ tzr Tryd.prog 127 = some (.pointer none) ∧ tak Tryd.prog 127 = some false ∧ tk Tryd.prog 128 = .int .i32 ∧ tsz Tryd.prog 128 = 1 ∧ tby Tryd.prog 128 = 4 ∧ tzr Tryd.prog 128 = some (.int .i32 0) ∧ tak Tryd.prog 128 = some false ∧ tk Tryd.prog 129 = .int .i32 ∧ tsz Tryd.prog 129 = 1 ∧ tby Tryd.prog 129 = 4 ∧ tzr Tryd.prog 129 = some (.int .i32 0) ∧ tak Tryd.prog 129 = some false ∧ tsz Tryd.prog 130 = 11 ∧ tby Tryd.prog 130 = 48) ∧ (tzr Tryd.prog 130 = some (.agg #[.int .u64 0, .int .u64 0, .int .u32 0, .int .u8 0, .int .u8 0, .int .u8 0, .int .u8 0, .nilFunc, .pointer none, .int .i32 0, .int .i32 0]) ∧ tak Tryd.prog 130 = some true ∧ tfo Tryd.prog 130 0 = some 0 ∧ tff Tryd.prog 130 0 = some (0, 12) ∧ tfo Tryd.prog 130 1 = some 1 ∧ tff Tryd.prog 130 1 = some (1, 12) ∧ tfo Tryd.prog 130 2 = some 2 ∧ tff Tryd.prog 130 2 = some (2, 79) ∧ tfo Tryd.prog 130 3 = some 3 ∧ tff Tryd.prog 130 3 = some (3, 124) ∧ tfo Tryd.prog 130 4 = some 4 ∧ tff Tryd.prog 130 4 = some (4, 5) ∧ tfo Tryd.prog 130 5 = some 5 ∧ tff Tryd.prog 130 5 = some (5, 5) ∧ tfo Tryd.prog 130 6 = some 6 ∧ tff Tryd.prog 130 6 = some (6, 125) ∧ tfo Tryd.prog 130 7 = some 7 ∧ tff Tryd.prog 130 7 = some (7, 126) ∧ tfo Tryd.prog 130 8 = some 8 ∧ tff Tryd.prog 130 8 = some (8, 127) ∧ tfo Tryd.prog 130 9 = some 9 ∧ tff Tryd.prog 130 9 = some (9, 128) ∧ tfo Tryd.prog 130 10 = some 10 ∧ tff Tryd.prog 130 10 = some (10, 129) ∧ tst Tryd.prog 130 = true ∧ tsz Tryd.prog 131 = 11 ∧ tby Tryd.prog 131 = 48 ∧ tzr Tryd.prog 131 = some (.agg #[.int .u64 0, .int .u64 0, .int .u32 0, .int .u8 0, .int .u8 0, .int .u8 0, .int .u8 0, .nilFunc, .pointer none, .int .i32 0, .int .i32 0]) ∧ tak Tryd.prog 131 = some true ∧ tfo Tryd.prog 131 0 = some 0 ∧ tff Tryd.prog 131 0 = some (0, 12) ∧ tfo Tryd.prog 131 1 = some 1 ∧ tff Tryd.prog 131 1 = some (1, 12) ∧ tfo Tryd.prog 131 2 = some 2 ∧ tff Tryd.prog 131 2 = some (2, 79) ∧ tfo Tryd.prog 131 3 = some 3 ∧ tff Tryd.prog 131 3 = some (3, 124) ∧ tfo Tryd.prog 131 4 = some 4 ∧ tff Tryd.prog 131 4 = some (4, 5) ∧ tfo Tryd.prog 131 5 = some 5) ∧ (tff Tryd.prog 131 5 = some (5, 5) ∧ tfo Tryd.prog 131 6 = some 6 ∧ tff Tryd.prog 131 6 = some (6, 125) ∧ tfo Tryd.prog 131 7 = some 7 ∧ tff Tryd.prog 131 7 = some (7, 126) ∧ tfo Tryd.prog 131 8 = some 8 ∧ tff Tryd.prog 131 8 = some (8, 127) ∧ tfo Tryd.prog 131 9 = some 9 ∧ tff Tryd.prog 131 9 = some (9, 128) ∧ tfo Tryd.prog 131 10 = some 10 ∧ tff Tryd.prog 131 10 = some (10, 129) ∧ tst Tryd.prog 131 = true ∧ tsz Tryd.prog 132 = 1 ∧ tby Tryd.prog 132 = 8 ∧ tzr Tryd.prog 132 = some (.pointer none) ∧ tak Tryd.prog 132 = some false) := ⟨Tryd.ty0, Tryd.ty1, Tryd.ty2, Tryd.ty3, Tryd.ty4, Tryd.ty5, Tryd.ty6, Tryd.ty7, Tryd.ty8, Tryd.ty9, Tryd.ty10⟩
theorem Tryd.en : entered Tryd.prog 2 = true ∧ entered Tryd.prog 3 = true ∧ entered Tryd.prog 4 = true ∧ entered Tryd.prog 5 = true ∧ entered Tryd.prog 6 = true ∧ entered Tryd.prog 7 = true ∧ entered Tryd.prog 8 = true ∧ entered Tryd.prog 9 = true ∧ entered Tryd.prog 10 = true ∧ entered Tryd.prog 11 = true ∧ entered Tryd.prog 12 = true ∧ entered Tryd.prog 13 = true ∧ entered Tryd.prog 14 = true ∧ entered Tryd.prog 15 = true ∧ entered Tryd.prog 16 = true ∧ entered Tryd.prog 17 = true ∧ entered Tryd.prog 18 = true ∧ entered Tryd.prog 19 = true ∧ entered Tryd.prog 20 = true ∧ entered Tryd.prog 21 = true ∧ entered Tryd.prog 22 = true ∧ entered Tryd.prog 23 = true ∧ entered Tryd.prog 24 = true ∧ entered Tryd.prog 25 = true ∧ entered Tryd.prog 26 = true ∧ entered Tryd.prog 27 = true ∧ entered Tryd.prog 28 = true ∧ entered Tryd.prog 29 = true ∧ entered Tryd.prog 30 = true ∧ entered Tryd.prog 31 = true ∧ entered Tryd.prog 32 = true ∧ entered Tryd.prog 33 = true ∧ entered Tryd.prog 34 = true ∧ entered Tryd.prog 35 = true ∧ entered Tryd.prog 36 = true ∧ entered Tryd.prog 37 = true ∧ entered Tryd.prog 38 = true ∧ entered Tryd.prog 39 = true ∧ entered Tryd.prog 40 = true ∧ entered Tryd.prog 41 = true ∧ entered Tryd.prog 42 = true ∧ entered Tryd.prog 43 = true ∧ entered Tryd.prog 44 = true ∧ entered Tryd.prog 45 = true ∧ entered Tryd.prog 46 = true ∧ entered Tryd.prog 47 = true ∧ entered Tryd.prog 48 = true ∧ entered Tryd.prog 49 = true ∧ entered Tryd.prog 50 = true ∧ entered Tryd.prog 51 = true ∧ entered Tryd.prog 52 = true ∧ entered Tryd.prog 53 = true ∧ entered Tryd.prog 54 = true ∧ entered Tryd.prog 55 = true ∧ entered Tryd.prog 56 = true ∧ entered Tryd.prog 57 = true ∧ entered Tryd.prog 58 = true ∧ entered Tryd.prog 59 = true ∧ entered Tryd.prog 60 = true ∧ entered Tryd.prog 61 = true ∧ entered Tryd.prog 62 = true ∧ entered Tryd.prog 63 = true ∧ entered Tryd.prog 64 = true ∧ entered Tryd.prog 65 = true ∧ entered Tryd.prog 66 = true ∧ entered Tryd.prog 67 = true ∧ entered Tryd.prog 68 = true ∧ entered Tryd.prog 69 = true ∧ entered Tryd.prog 70 = true ∧ entered Tryd.prog 71 = true ∧ entered Tryd.prog 72 = true ∧ entered Tryd.prog 73 = true ∧ entered Tryd.prog 74 = true ∧ entered Tryd.prog 75 = true ∧ entered Tryd.prog 96 = true := by refine ⟨?_, ?_, ?_, ?_, ?_, ?_, ?_, ?_, ?_, ?_, ?_, ?_, ?_, ?_, ?_, ?_, ?_, ?_, ?_, ?_, ?_, ?_, ?_, ?_, ?_, ?_, ?_, ?_, ?_, ?_, ?_, ?_, ?_, ?_, ?_, ?_, ?_, ?_, ?_, ?_, ?_, ?_, ?_, ?_, ?_, ?_, ?_, ?_, ?_, ?_, ?_, ?_, ?_, ?_, ?_, ?_, ?_, ?_, ?_, ?_, ?_, ?_, ?_, ?_, ?_, ?_, ?_, ?_, ?_, ?_, ?_, ?_, ?_, ?_, ?_⟩ <;> kernel_rfl
theorem Tryd.mixed : Tryd.prog.follows .mixedOrders = true := by kernel_rfl
end Go.Proofs.YtmcbdlefakjpoaaDoor

set_option linter.unusedSimpArgs false
set_option linter.unusedVariables false
set_option linter.unusedSectionVars false
namespace Go.Proofs.YtmcbdlefakjpoaaDoor
open Go.E
def tbl : List UInt32 := [1116352408, 1899447441, 3049323471, 3921009573, 961987163, 1508970993, 2453635748, 2870763221, 3624381080, 310598401, 607225278, 1426881987, 1925078388, 2162078206, 2614888103, 3248222580, 3835390401, 4022224774, 264347078, 604807628, 770255983, 1249150122, 1555081692, 1996064986, 2554220882, 2821834349, 2952996808, 3210313671, 3336571891, 3584528711, 113926993, 338241895, 666307205, 773529912, 1294757372, 1396182291, 1695183700, 1986661051, 2177026350, 2456956037, 2730485921, 2820302411, 3259730800, 3345764771, 3516065817, 3600352804, 4094571909, 275423344, 430227734, 506948616, 659060556, 883997877, 958139571, 1322822218, 1537002063, 1747873779, 1955562222, 2024104815, 2227730452, 2361852424, 2428436474, 2756734187, 3204031479, 3329325298]
theorem tbl_len : tbl.length = 64 := rfl
noncomputable def Tryd.G : Nat → AV := fun g => if g = 0 then .vp (tbl.map w32) 0 else .p (.pointer (some ⟨g, 0, none⟩))
theorem G0 : Tryd.G 0 = .vp (tbl.map w32) 0 := rfl
def rotr (x : UInt32) (k : Nat) : UInt32 := u32_shr x k ||| u32_shl x (32 - k)
theorem rot_num : ∀ k : Nat, k < 32 → 0 < k → (UInt64.ofInt (IntKind.i64.wrap (0 - (k : Int))) &&& UInt64.ofInt 31).toNat = 32 - k ∧ (UInt64.ofInt 32 - (UInt64.ofInt (IntKind.i64.wrap (0 - (k : Int))) &&& UInt64.ofInt 31)).toNat = k ∧ (UInt64.ofInt 32 - UInt64.ofInt (k : Int)).toNat = 32 - k := by decide +kernel
theorem rot_ok {T : Tbl} {x : UInt32} {k : Int} : CallA Tryd.prog Tryd.G 75 [.p (.int .u32 (x.toNat : Int)), .p (.int .i64 k)] T fun v T' es => v = .p (.int .u32 ((u32_shl x (UInt64.ofInt k &&& UInt64.ofInt 31).toNat ||| u32_shr x (UInt64.ofInt 32 - (UInt64.ofInt k &&& UInt64.ofInt 31)).toNat).toNat : Int)) ∧ T' = T ∧ es = [] := by
  refine CallA.enterV 6 Tryd.func75 Tryd.ntmps75 (congrArg Array.toList Tryd.results75) rfl ⟨by simp, by simp⟩ (by kernel_rfl) (by kernel_rfl) ?_
  (simp -dsimp +decide only [va, vc, vu, vl, Tryd.ty, Tryd.en, ↓reduceIte, Nat.reduceSub, Nat.reduceAdd, Nat.reduceMul, Nat.reduceLT, Int.reduceAdd, Int.reduceSub, Int.reduceToNat, Int.cast_ofNat_Int])
  exact Vw.done ⟨rfl, rfl, rfl⟩
theorem right_ok {T : Tbl} {x : UInt32} (k : Nat) (h0 : 0 < k) (h1 : k < 32) : CallA Tryd.prog Tryd.G 73 [.p (.int .u32 (x.toNat : Int)), .p (.int .i64 (k : Int))] T fun v T' es => v = .p (.int .u32 ((rotr x k).toNat : Int)) ∧ T' = T ∧ es = [] := by
  refine CallA.enterV 5 Tryd.func73 Tryd.ntmps73 (congrArg Array.toList Tryd.results73) rfl ⟨by simp, by simp⟩ (by kernel_rfl) (by kernel_rfl) ?_
  (simp -dsimp +decide only [va, vc, vu, vl, Tryd.ty, Tryd.en, ↓reduceIte, Nat.reduceSub, Nat.reduceAdd, Nat.reduceMul, Nat.reduceLT, Int.reduceAdd, Int.reduceSub, Int.reduceToNat, Int.cast_ofNat_Int])
  refine rot_ok.mono ?_
  rintro v T' es ⟨rfl, rfl, rfl⟩
  (simp -dsimp +decide only [va, vc, vu, vl, Tryd.ty, Tryd.en, ↓reduceIte, Nat.reduceSub, Nat.reduceAdd, Nat.reduceMul, Nat.reduceLT, Int.reduceAdd, Int.reduceSub, Int.reduceToNat, Int.cast_ofNat_Int])
  refine Vw.done ⟨?_, rfl, rfl⟩
  obtain ⟨e1, e2, _⟩ := rot_num k h1 h0
  rw [e1, e2, rotr, UInt32.or_comm]
theorem rright_ok {T : Tbl} {x : UInt32} (k : Nat) (h0 : 0 < k) (h1 : k < 32) : CallA Tryd.prog Tryd.G 63 [.p (.int .u32 (x.toNat : Int)), .p (.int .u64 (k : Int))] T fun v T' es => v = .p (.int .u32 ((rotr x k).toNat : Int)) ∧ T' = T ∧ es = [] := by
  refine CallA.enterV 5 Tryd.func63 Tryd.ntmps63 (congrArg Array.toList Tryd.results63) rfl ⟨by simp, by simp⟩ (by kernel_rfl) (by kernel_rfl) ?_
  (simp -dsimp +decide only [va, vc, vu, vl, Tryd.ty, Tryd.en, ↓reduceIte, Nat.reduceSub, Nat.reduceAdd, Nat.reduceMul, Nat.reduceLT, Int.reduceAdd, Int.reduceSub, Int.reduceToNat, Int.cast_ofNat_Int])
  refine ⟨by omega, Vw.done ⟨?_, rfl, rfl⟩⟩
  rw [(rot_num k h1 h0).2.2, rotr]

def sg0 (x : UInt32) : UInt32 := rotr x 7 ^^^ rotr x 18 ^^^ u32_shr x 3
def sg1 (x : UInt32) : UInt32 := rotr x 17 ^^^ rotr x 19 ^^^ u32_shr x 10
def be32 (p : List UInt8) (t : Nat) : Nat → UInt32
  | 0 => 0
  | j + 1 => u32_shl (be32 p t j) 8 ||| (p[4 * t + j]!).toUInt32
def nextW (p : List UInt8) (l : List UInt32) : UInt32 := if l.length < 16 then be32 p l.length 4 else l[l.length - 16]! + l[l.length - 7]! + (sg0 l[l.length - 15]!) + (sg1 l[l.length - 2]!)
def sch (p : List UInt8) : Nat → List UInt32
  | 0 => []
  | t + 1 => sch p t ++ [nextW p (sch p t)]
theorem sch_len (p : List UInt8) : ∀ t, (sch p t).length = t
  | 0 => rfl
  | t + 1 => by rw [sch, List.length_append, sch_len p t]; rfl
theorem at_mid (p : List UInt8) (t : Nat) (x : UInt32) (r : List UInt32) : (sch p t ++ x :: r)[t]? = some x := by simp [sch_len]
theorem at_pre (p : List UInt8) (t : Nat) (r : List UInt32) (k : Nat) (h : k < t) : (sch p t ++ r)[k]? = some (sch p t)[k]! := by
  rw [List.getElem?_append_left (by rw [sch_len]; exact h), getElem!_pos _ _ (by rw [sch_len]; exact h), List.getElem?_eq_getElem]
theorem set_mid (p : List UInt8) (t : Nat) (x y : UInt32) (r : List UInt32) : (sch p t ++ x :: r).set t y = sch p t ++ y :: r := by rw [List.set_append]; simp [sch_len]
set_option maxRecDepth 8000 in
theorem schedule_ok {T : Tbl} {i off : Nat} {E : TypeId} {cs : List AV} {p : List UInt8} (hT : T[i]? = some (.cells E cs)) (hp : p.length = 64) (hc : ∀ k, k < 64 → cs[off + k]? = some (by8 p[k]!)) :
    CallA Tryd.prog Tryd.G 72 [.ptr i off] T fun v T' es => v = .ag ((sch p 64).map w32) ∧ T' = T ∧ es = [] := by
  have hT' := get_old hT
  have hne : cs ≠ [] := by rintro rfl; simpa using hc 0
  refine CallA.enterV 23 Tryd.func72 Tryd.ntmps72 (congrArg Array.toList Tryd.results72) rfl ⟨by simp, by simp⟩ (by kernel_rfl) (by kernel_rfl) ?_
  (simp -dsimp +decide only [va, vc, vu, vl, Tryd.ty, Tryd.en, ↓reduceIte, Nat.reduceSub, Nat.reduceAdd, Nat.reduceMul, Nat.reduceLT, Int.reduceAdd, Int.reduceSub, Int.reduceToNat, Int.cast_ofNat_Int])
  refine SemA.loopL (fun t : Nat => [(0, .ptr i off), (2, .ptr T.length 0), (8, .p (.int .i64 t))]) (fun t => T ++ [.cells 111 ((sch p t ++ List.replicate (64 - t) 0).map w32)]) (fun t => t ≤ 64) (fun t => 64 - t) 0 [] (by kernel_rfl) (by omega) (by (simp -dsimp +decide only [va, vc, vu, vl, Tryd.ty, Tryd.en, ↓reduceIte, Nat.reduceSub, Nat.reduceAdd, Nat.reduceMul, Nat.reduceLT, Int.reduceAdd, Int.reduceSub, Int.reduceToNat, Int.cast_ofNat_Int])) rfl (by simp) ?_
  rintro t g ht
  (simp -dsimp +decide only [va, vc, vu, vl, Tryd.ty, Tryd.en, ↓reduceIte, Nat.reduceSub, Nat.reduceAdd, Nat.reduceMul, Nat.reduceLT, Int.reduceAdd, Int.reduceSub, Int.reduceToNat, Int.cast_ofNat_Int])
  refine CondP.dec (fun h => ?_) (fun h => ?_)
  · (simp -dsimp +decide only [va, vc, vu, vl, Tryd.ty, Tryd.en, ↓reduceIte, Nat.reduceSub, Nat.reduceAdd, Nat.reduceMul, Nat.reduceLT, Int.reduceAdd, Int.reduceSub, Int.reduceToNat, Int.cast_ofNat_Int])
    refine CondP.dec (fun h1 => ?_) (fun h1 => ?_)
    · (simp -dsimp +decide (disch := omega) only [va, vc, vu, vl, Tryd.ty, Tryd.en, ↓reduceIte, Nat.reduceSub, Nat.reduceAdd, Nat.reduceMul, Nat.reduceLT, Int.reduceAdd, Int.reduceSub, Int.reduceToNat, Int.cast_ofNat_Int, vi, getO_i, hT'])
      rw [show 4 * t + 4 - 4 * t = 4 by omega]
      refine ⟨by omega, by omega, by omega, ?_⟩
      refine SemA.loopL (fun j : Nat => [(0, .ptr i off), (2, .ptr T.length 0), (3, .p (.int .i64 t)), (8, .p (.int .i64 t)), (20, .sl i (off + 4 * t) 4), (21, .p (.int .i64 4)), (22, .p (.int .i64 j))]) (fun j => T ++ [.cells 111 ((sch p t ++ be32 p t j :: List.replicate (63 - t) 0).map w32)]) (fun j => j ≤ 4) (fun j => 4 - j) 0 [] (by kernel_rfl) (by omega) (by (simp -dsimp +decide only [va, vc, vu, vl, Tryd.ty, Tryd.en, ↓reduceIte, Nat.reduceSub, Nat.reduceAdd, Nat.reduceMul, Nat.reduceLT, Int.reduceAdd, Int.reduceSub, Int.reduceToNat, Int.cast_ofNat_Int])) ?_ (by simp) ?_
      · rw [show 64 - t = (63 - t) + 1 by omega]; rfl
      rintro j g ht
      (simp -dsimp +decide only [va, vc, vu, vl, Tryd.ty, Tryd.en, ↓reduceIte, Nat.reduceSub, Nat.reduceAdd, Nat.reduceMul, Nat.reduceLT, Int.reduceAdd, Int.reduceSub, Int.reduceToNat, Int.cast_ofNat_Int])
      refine CondP.dec (fun h => ?_) (fun h => ?_)
      · (simp -dsimp +decide (disch := omega) only [va, vc, vu, vl, Tryd.ty, Tryd.en, ↓reduceIte, Nat.reduceSub, Nat.reduceAdd, Nat.reduceMul, Nat.reduceLT, Int.reduceAdd, Int.reduceSub, Int.reduceToNat, Int.cast_ofNat_Int, vi, getO_i, hT', hne, hc (4 * t + j) (by omega), at_mid p t, set_mid p t])
        refine ⟨⟨by omega, by omega, hne⟩, ⟨by omega, by omega⟩, ⟨by omega, by omega⟩, by simp [sch_len], j + 1, by omega, by omega, rfl, rfl⟩
      · have hj : j = 4 := by omega
        subst hj
        (simp -dsimp +decide (disch := omega) only [va, vc, vu, vl, Tryd.ty, Tryd.en, ↓reduceIte, Nat.reduceSub, Nat.reduceAdd, Nat.reduceMul, Nat.reduceLT, Int.reduceAdd, Int.reduceSub, Int.reduceToNat, Int.cast_ofNat_Int, vi, getO_i])
        refine ⟨t + 1, by omega, by omega, rfl, ?_⟩
        rw [sch, nextW, sch_len, if_pos (by omega), show 64 - (t + 1) = 63 - t by omega, List.append_assoc]; rfl
    · rw [show 64 - t = (63 - t) + 1 by omega, List.replicate_succ]
      (simp -dsimp +decide only [va, vc, vu, vl, Tryd.ty, Tryd.en, ↓reduceIte, Nat.reduceSub, Nat.reduceAdd, Nat.reduceMul, Nat.reduceLT, Int.reduceAdd, Int.reduceSub, Int.reduceToNat, Int.cast_ofNat_Int])
      refine SemA.draw (fun _ => true) [(0, true), (1, true), (2, true), (3, true), (4, true), (5, true), (6, true), (7, true), (8, true), (9, true)] Tryd.mixed (by kernel_rfl) ?_
      (simp -dsimp +decide (disch := omega) only [va, vc, vu, vl, Tryd.ty, Tryd.en, ↓reduceIte, Nat.reduceSub, Nat.reduceAdd, Nat.reduceMul, Nat.reduceLT, Int.reduceAdd, Int.reduceSub, Int.reduceToNat, Int.cast_ofNat_Int, vi, getO_i, at_pre])
      refine ⟨by omega, by omega, ?_⟩
      refine SemA.draw (fun _ => true) [(0, true), (1, true), (2, true), (3, true), (4, true), (5, true), (6, true), (7, true), (8, true), (9, true), (10, true), (12, true), (15, true), (16, true), (19, true), (21, true), (24, true), (25, true), (11, false), (13, false), (14, true), (17, true), (18, true), (20, false), (22, false), (23, true), (26, true), (27, true), (28, true), (29, false)] Tryd.mixed (by kernel_rfl) ?_
      (simp -dsimp +decide (disch := omega) only [va, vc, vu, vl, Tryd.ty, Tryd.en, ↓reduceIte, Nat.reduceSub, Nat.reduceAdd, Nat.reduceMul, Nat.reduceLT, Int.reduceAdd, Int.reduceSub, Int.reduceToNat, Int.cast_ofNat_Int, vi, getO_i, at_pre])
      refine ⟨by omega, by omega, ?_⟩
      refine (right_ok 7 (by omega) (by omega)).det ?_
      (simp -dsimp +decide (disch := omega) only [va, vc, vu, vl, Tryd.ty, Tryd.en, ↓reduceIte, Nat.reduceSub, Nat.reduceAdd, Nat.reduceMul, Nat.reduceLT, Int.reduceAdd, Int.reduceSub, Int.reduceToNat, Int.cast_ofNat_Int, vi, getO_i, at_pre])
      refine (right_ok 18 (by omega) (by omega)).det ?_
      (simp -dsimp +decide (disch := omega) only [va, vc, vu, vl, Tryd.ty, Tryd.en, ↓reduceIte, Nat.reduceSub, Nat.reduceAdd, Nat.reduceMul, Nat.reduceLT, Int.reduceAdd, Int.reduceSub, Int.reduceToNat, Int.cast_ofNat_Int, vi, getO_i, at_pre])
      refine (right_ok 17 (by omega) (by omega)).det ?_
      (simp -dsimp +decide (disch := omega) only [va, vc, vu, vl, Tryd.ty, Tryd.en, ↓reduceIte, Nat.reduceSub, Nat.reduceAdd, Nat.reduceMul, Nat.reduceLT, Int.reduceAdd, Int.reduceSub, Int.reduceToNat, Int.cast_ofNat_Int, vi, getO_i, at_pre])
      refine (right_ok 19 (by omega) (by omega)).det ?_
      (simp -dsimp +decide (disch := omega) only [va, vc, vu, vl, Tryd.ty, Tryd.en, ↓reduceIte, Nat.reduceSub, Nat.reduceAdd, Nat.reduceMul, Nat.reduceLT, Int.reduceAdd, Int.reduceSub, Int.reduceToNat, Int.cast_ofNat_Int, vi, getO_i, at_pre, set_mid p t])
      refine ⟨by omega, by simp [sch_len], t + 1, by omega, by omega, rfl, ?_⟩
      rw [sch, nextW, sch_len, if_neg (by omega), show 64 - (t + 1) = 63 - t by omega, List.append_assoc]; rfl
  · have ht : t = 64 := by omega
    subst ht
    (simp -dsimp +decide only [va, vc, vu, vl, Tryd.ty, Tryd.en, ↓reduceIte, Nat.reduceSub, Nat.reduceAdd, Nat.reduceMul, Nat.reduceLT, Int.reduceAdd, Int.reduceSub, Int.reduceToNat, Int.cast_ofNat_Int])
    rw [wrA_eq (by simp [sch_len])]
    refine ⟨by simp [sch_len], ⟨by simp [sch_len], by simp [sch_len], by simp [sch_len]⟩, by simp [sch_len], Vw.cut ⟨?_, rfl, rfl⟩⟩
    simp [sch_len]
    rw [List.take_of_length_le (by simp [sch_len])]
    (simp -dsimp +decide only [va, vc, vu, vl, Tryd.ty, Tryd.en, ↓reduceIte, Nat.reduceSub, Nat.reduceAdd, Nat.reduceMul, Nat.reduceLT, Int.reduceAdd, Int.reduceSub, Int.reduceToNat, Int.cast_ofNat_Int])
end Go.Proofs.YtmcbdlefakjpoaaDoor

set_option linter.unusedSimpArgs false
set_option linter.unusedVariables false
set_option linter.unusedSectionVars false
namespace Go.Proofs.YtmcbdlefakjpoaaDoor
open Go.E
structure W8 where
  (a b c d e f g h : UInt32)
def rnd (s : W8) (k w : UInt32) : W8 :=
  let one := s.h + (rotr s.e 6 ^^^ rotr s.e 11 ^^^ rotr s.e 25) + (s.g ^^^ s.e &&& (s.f ^^^ s.g)) + k + w
  let two := (rotr s.a 2 ^^^ rotr s.a 13 ^^^ rotr s.a 22) + (s.a &&& s.b ||| s.c &&& (s.a ||| s.b))
  ⟨one + two, s.a, s.b, s.c, s.d + one, s.e, s.f, s.g⟩
def rnds (ws : List UInt32) (s : W8) : Nat → W8
  | 0 => s
  | t + 1 => rnd (rnds ws s t) tbl[t]! ws[t]!
def W8.l (s : W8) : List UInt32 := [s.a, s.b, s.c, s.d, s.e, s.f, s.g, s.h]
def W8.of (l : List UInt32) : W8 := ⟨l[0]!, l[1]!, l[2]!, l[3]!, l[4]!, l[5]!, l[6]!, l[7]!⟩
/-- the words behind one piece more -/
def piece (hl : List UInt32) (p : List UInt8) : List UInt32 := List.zipWith (· + ·) hl (rnds (sch p 64) (W8.of hl) 64).l
theorem step_get {α : Type} [Inhabited α] (z l : List α) (i : Nat) (hz : i < z.length) (hl : i < l.length) : (z.take i ++ l.drop i)[i]? = some l[i]! := by
  rw [List.getElem?_append_right (by simp; omega), List.length_take, Nat.min_eq_left (by omega), Nat.sub_self, List.getElem?_drop, Nat.add_zero, getElem!_pos l i hl, List.getElem?_eq_getElem hl]
theorem step_set {α : Type} [Inhabited α] (z l : List α) (i : Nat) (hz : i < z.length) (hl : i < l.length) (y : α) (hy : z[i]! = y) : (z.take i ++ l.drop i).set i y = z.take (i + 1) ++ l.drop (i + 1) := by
  subst hy
  rw [List.set_append, if_neg (by simp; omega), List.length_take, Nat.min_eq_left (by omega), Nat.sub_self, List.drop_eq_getElem_cons hl, List.set_cons_zero, getElem!_pos z i hz]
  have := List.take_succ_eq_append_getElem hz
  rw [this, List.append_assoc]
  rfl

set_option maxRecDepth 8000 in
theorem with_ok {T : Tbl} {i off : Nat} {E : TypeId} {cs : List AV} {p : List UInt8} {hl : List UInt32} (hT : T[i]? = some (.cells E cs)) (hp : p.length = 64) (hc : ∀ k, k < 64 → cs[off + k]? = some (by8 p[k]!)) (hh : hl.length = 8) :
    CallA Tryd.prog Tryd.G 66 [.ag (hl.map w32), .ptr i off] T fun v T' es => v = .ag ((piece hl p).map w32) ∧ T' = T ∧ es = [] := by
  have hT' := get_old hT
  have hs := sch_len p 64
  have htb := tbl_len
  have hne : cs ≠ [] := by rintro rfl; simpa using hc 0
  refine CallA.enterV 108 Tryd.func66 Tryd.ntmps66 (congrArg Array.toList Tryd.results66) rfl ⟨by simp, by simp⟩ (by kernel_rfl) (by kernel_rfl) ?_
  (simp -dsimp +decide only [va, vc, vu, vl, Tryd.ty, Tryd.en, ↓reduceIte, Nat.reduceSub, Nat.reduceAdd, Nat.reduceMul, Nat.reduceLT, Int.reduceAdd, Int.reduceSub, Int.reduceToNat, Int.cast_ofNat_Int])
  refine SemA.draw (fun _ => true) [(0, true), (1, true), (2, true), (3, true), (4, true), (5, true), (6, true), (7, true), (8, true), (9, true), (10, true), (11, true), (12, true), (13, true), (14, true), (15, true), (16, true), (17, true), (18, true), (19, true), (20, true), (21, true), (22, true), (23, true)] Tryd.mixed (by kernel_rfl) ?_
  (simp -dsimp +decide (disch := omega) only [va, vc, vu, vl, Tryd.ty, Tryd.en, ↓reduceIte, Nat.reduceSub, Nat.reduceAdd, Nat.reduceMul, Nat.reduceLT, Int.reduceAdd, Int.reduceSub, Int.reduceToNat, Int.cast_ofNat_Int, vi, getO_i])
  refine (schedule_ok (hT' _) hp hc).det ?_
  (simp -dsimp +decide (disch := omega) only [va, vc, vu, vl, Tryd.ty, Tryd.en, ↓reduceIte, Nat.reduceSub, Nat.reduceAdd, Nat.reduceMul, Nat.reduceLT, Int.reduceAdd, Int.reduceSub, Int.reduceToNat, Int.cast_ofNat_Int, vi, getO_i, G0])
  rw [wrA_all (by simp [sch_len])]
  refine ⟨by simp [sch_len], ?_⟩
  refine SemA.loopL (fun t : Nat => [(2, .ptr T.length 0), (4, .ptr (T.length + 1) 0), (5, w32 (rnds (sch p 64) (W8.of hl) t).a), (6, w32 (rnds (sch p 64) (W8.of hl) t).b), (7, w32 (rnds (sch p 64) (W8.of hl) t).c), (8, w32 (rnds (sch p 64) (W8.of hl) t).d), (9, w32 (rnds (sch p 64) (W8.of hl) t).e), (10, w32 (rnds (sch p 64) (W8.of hl) t).f), (11, w32 (rnds (sch p 64) (W8.of hl) t).g), (12, w32 (rnds (sch p 64) (W8.of hl) t).h), (13, .ptr (T.length + 2) 0), (38, .ag (tbl.map w32)), (39, wint t)])
    (fun _ => T ++ [.cells 81 (hl.map w32), .cells 81 ((List.replicate 8 (0 : UInt32)).map w32), .cells 111 ((sch p 64).map w32)]) (fun t => t ≤ 64) (fun t => 64 - t) 0 [] (by kernel_rfl) (by omega) ?_ ?_ ?_ ?_
  · (simp -dsimp +decide only [va, vc, vu, vl, Tryd.ty, Tryd.en, ↓reduceIte, Nat.reduceSub, Nat.reduceAdd, Nat.reduceMul, Nat.reduceLT, Int.reduceAdd, Int.reduceSub, Int.reduceToNat, Int.cast_ofNat_Int])
    exact ⟨rfl, rfl, rfl, rfl, rfl, rfl, rfl, rfl, rfl⟩
  · rfl
  · simp
  rintro t g ht
  (simp -dsimp +decide only [va, vc, vu, vl, Tryd.ty, Tryd.en, ↓reduceIte, Nat.reduceSub, Nat.reduceAdd, Nat.reduceMul, Nat.reduceLT, Int.reduceAdd, Int.reduceSub, Int.reduceToNat, Int.cast_ofNat_Int])
  refine CondP.dec (fun h => ?_) (fun h => ?_)
  · (simp -dsimp +decide (disch := omega) only [va, vc, vu, vl, Tryd.ty, Tryd.en, ↓reduceIte, Nat.reduceSub, Nat.reduceAdd, Nat.reduceMul, Nat.reduceLT, Int.reduceAdd, Int.reduceSub, Int.reduceToNat, Int.cast_ofNat_Int, vi, getO_i])
    refine ⟨by omega, ?_⟩
    refine SemA.draw (fun _ => true) [(0, true), (1, true), (3, true), (6, true), (10, true), (11, true), (12, true), (13, true), (14, true), (15, true), (16, true), (18, true), (20, true), (21, true), (22, true), (2, false), (4, false), (5, true), (7, false), (8, true), (9, true), (17, true), (19, true), (23, true), (24, true)] Tryd.mixed (by kernel_rfl) ?_
    (simp -dsimp +decide (disch := omega) only [va, vc, vu, vl, Tryd.ty, Tryd.en, ↓reduceIte, Nat.reduceSub, Nat.reduceAdd, Nat.reduceMul, Nat.reduceLT, Int.reduceAdd, Int.reduceSub, Int.reduceToNat, Int.cast_ofNat_Int, vi, getO_i])
    refine ⟨by omega, ?_⟩
    refine (right_ok 6 (by omega) (by omega)).det ?_
    (simp -dsimp +decide (disch := omega) only [va, vc, vu, vl, Tryd.ty, Tryd.en, ↓reduceIte, Nat.reduceSub, Nat.reduceAdd, Nat.reduceMul, Nat.reduceLT, Int.reduceAdd, Int.reduceSub, Int.reduceToNat, Int.cast_ofNat_Int, vi, getO_i])
    refine (right_ok 11 (by omega) (by omega)).det ?_
    (simp -dsimp +decide (disch := omega) only [va, vc, vu, vl, Tryd.ty, Tryd.en, ↓reduceIte, Nat.reduceSub, Nat.reduceAdd, Nat.reduceMul, Nat.reduceLT, Int.reduceAdd, Int.reduceSub, Int.reduceToNat, Int.cast_ofNat_Int, vi, getO_i])
    refine (right_ok 25 (by omega) (by omega)).det ?_
    (simp -dsimp +decide (disch := omega) only [va, vc, vu, vl, Tryd.ty, Tryd.en, ↓reduceIte, Nat.reduceSub, Nat.reduceAdd, Nat.reduceMul, Nat.reduceLT, Int.reduceAdd, Int.reduceSub, Int.reduceToNat, Int.cast_ofNat_Int, vi, getO_i])
    refine (right_ok 2 (by omega) (by omega)).det ?_
    (simp -dsimp +decide (disch := omega) only [va, vc, vu, vl, Tryd.ty, Tryd.en, ↓reduceIte, Nat.reduceSub, Nat.reduceAdd, Nat.reduceMul, Nat.reduceLT, Int.reduceAdd, Int.reduceSub, Int.reduceToNat, Int.cast_ofNat_Int, vi, getO_i])
    refine (right_ok 13 (by omega) (by omega)).det ?_
    (simp -dsimp +decide (disch := omega) only [va, vc, vu, vl, Tryd.ty, Tryd.en, ↓reduceIte, Nat.reduceSub, Nat.reduceAdd, Nat.reduceMul, Nat.reduceLT, Int.reduceAdd, Int.reduceSub, Int.reduceToNat, Int.cast_ofNat_Int, vi, getO_i])
    refine (right_ok 22 (by omega) (by omega)).det ?_
    (simp -dsimp +decide (disch := omega) only [va, vc, vu, vl, Tryd.ty, Tryd.en, ↓reduceIte, Nat.reduceSub, Nat.reduceAdd, Nat.reduceMul, Nat.reduceLT, Int.reduceAdd, Int.reduceSub, Int.reduceToNat, Int.cast_ofNat_Int, vi, getO_i])
    exact ⟨t + 1, by omega, by omega, rfl, rfl, rfl, rfl, rfl, rfl, rfl, rfl, rfl⟩
  · have ht : t = 64 := by omega
    subst ht
    (simp -dsimp +decide (disch := omega) only [va, vc, vu, vl, Tryd.ty, Tryd.en, ↓reduceIte, Nat.reduceSub, Nat.reduceAdd, Nat.reduceMul, Nat.reduceLT, Int.reduceAdd, Int.reduceSub, Int.reduceToNat, Int.cast_ofNat_Int, vi, getO_i])
    obtain ⟨x, hx⟩ : ∃ x, x = (rnds (sch p 64) (W8.of hl) 64).l := ⟨_, rfl⟩
    have hxl : x.length = 8 := by rw [hx]; rfl
    obtain ⟨z, hz⟩ : ∃ z, z = List.zipWith (· + ·) hl x := ⟨_, rfl⟩
    have hzl : z.length = 8 := by rw [hz, List.length_zipWith, hh, hxl]; rfl
    refine SemA.loopL (fun i : Nat => [(2, .ptr T.length 0), (4, .ptr (T.length + 1) 0), (106, .ag (x.map w32)), (107, wint i)])
      (fun i => T ++ [.cells 81 ((z.take i ++ hl.drop i).map w32), .cells 81 ((List.replicate 8 (0 : UInt32)).map w32), .cells 111 ((sch p 64).map w32)]) (fun t => t ≤ 8) (fun t => 8 - t) 0 [] (by kernel_rfl) (by omega) ?_ ?_ ?_ ?_
    · (simp -dsimp +decide only [va, vc, vu, vl, Tryd.ty, Tryd.en, ↓reduceIte, Nat.reduceSub, Nat.reduceAdd, Nat.reduceMul, Nat.reduceLT, Int.reduceAdd, Int.reduceSub, Int.reduceToNat, Int.cast_ofNat_Int])
      rw [hx]
      rfl
    · rfl
    · simp
    rintro i g ht
    (simp -dsimp +decide only [va, vc, vu, vl, Tryd.ty, Tryd.en, ↓reduceIte, Nat.reduceSub, Nat.reduceAdd, Nat.reduceMul, Nat.reduceLT, Int.reduceAdd, Int.reduceSub, Int.reduceToNat, Int.cast_ofNat_Int])
    refine CondP.dec (fun h => ?_) (fun h => ?_)
    · have hzi : z[i]! = hl[i]! + x[i]! := by
        rw [hz, getElem!_pos _ i (by rw [← hz]; omega), getElem!_pos hl i (by omega), getElem!_pos x i (by omega)]; simp
      (simp -dsimp +decide (disch := omega) only [va, vc, vu, vl, Tryd.ty, Tryd.en, ↓reduceIte, Nat.reduceSub, Nat.reduceAdd, Nat.reduceMul, Nat.reduceLT, Int.reduceAdd, Int.reduceSub, Int.reduceToNat, Int.cast_ofNat_Int, vi, getO_i, step_get z hl i (by omega) (by omega), step_set z hl i (by omega) (by omega) _ hzi])
      exact ⟨by omega, by omega, by omega, by simp; omega, i + 1, by omega, by omega, rfl, rfl⟩
    · have ht : i = 8 := by omega
      subst ht
      (simp -dsimp +decide (disch := omega) only [va, vc, vu, vl, Tryd.ty, Tryd.en, ↓reduceIte, Nat.reduceSub, Nat.reduceAdd, Nat.reduceMul, Nat.reduceLT, Int.reduceAdd, Int.reduceSub, Int.reduceToNat, Int.cast_ofNat_Int, vi, getO_i])
      rw [show List.take 8 z ++ List.drop 8 hl = z by rw [List.take_of_length_le (by omega), List.drop_of_length_le (by omega), List.append_nil], List.drop_zero, List.take_of_length_le (show z.length ≤ 8 by omega), wrA_all (by simp [hzl])]
      refine ⟨by omega, ⟨by omega, by omega, by simp [hzl]⟩, by simp [hzl], Vw.cut ⟨?_, rfl, rfl⟩⟩
      rw [List.take_of_length_le (by simp [hzl])]
      (simp -dsimp +decide only [va, vc, vu, vl, Tryd.ty, Tryd.en, ↓reduceIte, Nat.reduceSub, Nat.reduceAdd, Nat.reduceMul, Nat.reduceLT, Int.reduceAdd, Int.reduceSub, Int.reduceToNat, Int.cast_ofNat_Int])
      rw [piece, ← hx, ← hz]
end Go.Proofs.YtmcbdlefakjpoaaDoor

set_option linter.unusedSimpArgs false
set_option linter.unusedVariables false
set_option linter.unusedSectionVars false
namespace Go.Proofs.YtmcbdlefakjpoaaDoor
open Go.E
def init : List UInt32 := [1779033703, 3144134277, 1013904242, 2773480762, 1359893119, 2600822924, 528734635, 1541459225]
structure Sa where
  (h : List UInt32) (pc : List UInt8) (n : UInt64)
def Sa.ok (s : Sa) : Prop := s.h.length = 8 ∧ s.pc.length = 64
/-- one byte more -/
def Sa.put (s : Sa) (x : UInt8) : Sa :=
  let pc := s.pc.set (s.n.toNat % 64) x
  ⟨if (s.n + 1).toNat % 64 = 0 then piece s.h pc else s.h, pc, s.n + 1⟩
def Sa.puts (s : Sa) (l : List UInt8) : Sa := l.foldl Sa.put s
def Sa.zero : Sa := ⟨init, List.replicate 64 0, 0⟩
/-- the cells -/
def Sa.c (s : Sa) : List AV := .p (.bool true) :: (s.h.map w32 ++ (s.pc.map by8 ++ [w64 s.n]))
set_option maxRecDepth 8000 in
theorem start_ok {T : Tbl} : CallA Tryd.prog Tryd.G 65 [] T fun v T' es => v = .ag (init.map w32) ∧ T' = T ∧ es = [] := by
  refine CallA.enterV 2 Tryd.func65 Tryd.ntmps65 (congrArg Array.toList Tryd.results65) rfl ⟨by simp, by simp⟩ (by kernel_rfl) (by kernel_rfl) ?_
  (simp -dsimp +decide only [va, vc, vu, vl, Tryd.ty, Tryd.en, ↓reduceIte, Nat.reduceSub, Nat.reduceAdd, Nat.reduceMul, Nat.reduceLT, Int.reduceAdd, Int.reduceSub, Int.reduceToNat, Int.cast_ofNat_Int])
  rw [wrA_all (by simp)]
  exact Vw.cut ⟨rfl, rfl, rfl⟩
set_option maxRecDepth 8000 in
theorem begin_ok {T : Tbl} : CallA Tryd.prog Tryd.G 47 [] T fun v T' es => v = .ag Sa.zero.c ∧ T' = T ∧ es = [] := by
  refine CallA.enterV 3 Tryd.func47 Tryd.ntmps47 (congrArg Array.toList Tryd.results47) rfl ⟨by simp, by simp⟩ (by kernel_rfl) (by kernel_rfl) ?_
  (simp -dsimp +decide only [va, vc, vu, vl, Tryd.ty, Tryd.en, ↓reduceIte, Nat.reduceSub, Nat.reduceAdd, Nat.reduceMul, Nat.reduceLT, Int.reduceAdd, Int.reduceSub, Int.reduceToNat, Int.cast_ofNat_Int])
  refine start_ok.det ?_
  (simp -dsimp +decide only [va, vc, vu, vl, Tryd.ty, Tryd.en, ↓reduceIte, Nat.reduceSub, Nat.reduceAdd, Nat.reduceMul, Nat.reduceLT, Int.reduceAdd, Int.reduceSub, Int.reduceToNat, Int.cast_ofNat_Int])
  exact Vw.cut ⟨rfl, rfl, rfl⟩
theorem Sa.wo (s : Sa) (q : Nat → Bool) : s.c.map (AV.wo q) = s.c := by
  rw [Sa.c, List.map_cons, List.map_append, List.map_append]
  (simp -dsimp +decide only [va, vc, vu, vl, Tryd.ty, Tryd.en, ↓reduceIte, Nat.reduceSub, Nat.reduceAdd, Nat.reduceMul, Nat.reduceLT, Int.reduceAdd, Int.reduceSub, Int.reduceToNat, Int.cast_ofNat_Int])
theorem Sa.ones (s : Sa) : ones s.c = true := by
  have h1 : ∀ a b : List AV, E.ones (a ++ b) = (E.ones a && E.ones b) := fun a b => List.all_append
  rw [Sa.c]
  (simp -dsimp +decide only [va, vc, vu, vl, Tryd.ty, Tryd.en, ↓reduceIte, Nat.reduceSub, Nat.reduceAdd, Nat.reduceMul, Nat.reduceLT, Int.reduceAdd, Int.reduceSub, Int.reduceToNat, Int.cast_ofNat_Int, h1])
def zst : List AV := .p (.bool false) :: ((List.replicate 8 (0 : UInt32)).map w32 ++ ((List.replicate 64 (0 : UInt8)).map by8 ++ [w64 0]))
section
variable {s : Sa} (hs : s.ok)
include hs
theorem Sa.len : s.c.length = 74 := by simp [Sa.c, hs.1, hs.2]
theorem Sa.get_n : s.c[73]? = some (w64 s.n) := by
  obtain ⟨h1, h2⟩ := hs
  rw [Sa.c, List.getElem?_cons_succ, List.getElem?_append_right (by simp; omega), List.getElem?_append_right (by simp; omega)]
  simp [h1, h2]
theorem Sa.set_n (n : UInt64) : s.c.set 73 (.p (.int .u64 (n.toNat : Int))) = (⟨s.h, s.pc, n⟩ : Sa).c := by
  obtain ⟨h1, h2⟩ := hs
  rw [Sa.c, List.set_cons_succ, List.set_append, if_neg (by simp; omega), List.set_append, if_neg (by simp; omega)]
  simp [h1, h2, Sa.c]; rfl
theorem Sa.wr_pc (r : Nat) (x : List UInt8) (h : r + x.length ≤ 64) : wrA s.c (9 + r) (x.map by8) = (⟨s.h, s.pc.take r ++ x ++ s.pc.drop (r + x.length), s.n⟩ : Sa).c := by
  have hl := Sa.len hs
  obtain ⟨h1, h2⟩ := hs
  rw [wrA_eq (by simp; omega), Sa.c, Sa.c, show 9 + r = (8 + r) + 1 by omega, List.take_succ_cons, show 8 + r + 1 + (x.map by8).length = (8 + (r + x.length)) + 1 by simp; omega, List.drop_succ_cons,
    List.take_append, List.take_append, List.drop_append, List.drop_append]
  simp only [List.length_map, h1, h2, List.length_append, List.map_append, List.map_take, List.map_drop]
  rw [List.take_of_length_le (by simp; omega), show 8 + r - 8 = r by omega, show r - 64 = 0 by omega, List.drop_of_length_le (by simp; omega), show 8 + (r + x.length) - 8 = r + x.length by omega, show r + x.length - 64 = 0 by omega]
  simp
theorem Sa.wr_h (h : List UInt32) (hh : h.length = 8) : wrA s.c 1 (h.map w32) = (⟨h, s.pc, s.n⟩ : Sa).c := by
  have hl := Sa.len hs
  obtain ⟨h1, h2⟩ := hs
  rw [wrA_eq (by simp; omega), Sa.c, Sa.c, List.take_succ_cons, List.take_zero, show 1 + (h.map w32).length = 8 + 1 by simp; omega, List.drop_succ_cons, List.drop_append_of_le_length (by simp; omega), List.drop_of_length_le (by simp; omega)]
  simp
theorem Sa.get_h : (s.c.drop 1).take 8 = s.h.map w32 := by
  obtain ⟨h1, h2⟩ := hs
  rw [Sa.c, List.drop_succ_cons, List.drop_zero, List.take_append_of_le_length (by simp; omega), List.take_of_length_le (by simp; omega)]
theorem Sa.get_hk (k : Nat) (hk : k < 8) : s.c[1 + k]? = some (.p (.int .u32 (s.h[k]!.toNat : Int))) := by
  obtain ⟨h1, h2⟩ := hs
  rw [Sa.c, show 1 + k = k + 1 by omega, List.getElem?_cons_succ, List.getElem?_append_left (by simp; omega)]
  simp [getElem!_pos s.h k (by omega), List.getElem?_eq_getElem (show k < s.h.length by omega), w32]
theorem Sa.get_pc (k : Nat) (hk : k < 64) : s.c[9 + k]? = some (by8 s.pc[k]!) := by
  obtain ⟨h1, h2⟩ := hs
  rw [Sa.c, show 9 + k = (8 + k) + 1 by omega, List.getElem?_cons_succ, List.getElem?_append_right (by simp; omega), List.getElem?_append_left (by simp; omega)]
  simp [h1, getElem!_pos s.pc k (by omega), List.getElem?_eq_getElem (show k < s.pc.length by omega)]
theorem Sa.put_ok (x : UInt8) : (s.put x).ok := by
  obtain ⟨h1, h2⟩ := hs
  refine ⟨?_, by simp [Sa.put, h2]⟩
  simp only [Sa.put]
  split
  · rw [piece, List.length_zipWith, h1]; rfl
  · exact h1
end
theorem Sa.puts_ok (l : List UInt8) : ∀ {s : Sa}, s.ok → (s.puts l).ok := by
  induction l with
  | nil => exact fun h => h
  | cons x l ih => exact fun h => ih (Sa.put_ok h x)
theorem of_succ (n : UInt64) (k : Nat) : n + UInt64.ofInt ((k + 1 : Nat) : Int) = n + 1 + UInt64.ofInt (k : Int) := by
  rw [UInt64.add_assoc]
  congr 1
  rw [Int.natCast_succ, UInt64.ofInt_add, UInt64.add_comm]; rfl
theorem mod_succ (n : UInt64) : (n + 1).toNat % 64 = (n.toNat % 64 + 1) % 64 := by
  rw [UInt64.toNat_add]; simp
theorem absorb (x : List UInt8) : ∀ (s : Sa), s.n.toNat % 64 + x.length ≤ 64 → 0 < x.length → s.ok → s.puts x = (let pc := s.pc.take (s.n.toNat % 64) ++ x ++ s.pc.drop (s.n.toNat % 64 + x.length)
    ⟨if (s.n + UInt64.ofInt (x.length : Int)).toNat % 64 = 0 then piece s.h pc else s.h, pc, s.n + UInt64.ofInt (x.length : Int)⟩) := by
  induction x with
  | nil => intro s _ h; simp at h
  | cons y x ih =>
    intro s h1 _ hs
    have hp := hs.2
    rw [List.length_cons] at h1 ⊢
    obtain ⟨r, hr⟩ : ∃ r, r = s.n.toNat % 64 := ⟨_, rfl⟩
    rw [← hr] at h1 ⊢
    have hset : s.pc.set r y = s.pc.take r ++ y :: s.pc.drop (r + 1) := by
      rw [List.set_eq_take_append_cons_drop, if_pos (by omega)]
    show (s.put y).puts x = _
    by_cases hx : x = []
    · subst hx
      show s.put y = _
      simp only [Sa.put, ← hr, hset, List.length_nil, of_succ]
      rw [show UInt64.ofInt ((0 : Nat) : Int) = 0 from rfl, UInt64.add_zero]
      simp
    · have hx0 : 0 < x.length := List.length_pos_iff.2 hx
      have e := mod_succ s.n
      have hput : s.put y = ⟨s.h, s.pc.set r y, s.n + 1⟩ := by
        simp only [Sa.put, ← hr]; rw [if_neg (by omega)]
      rw [ih (s.put y) (by rw [hput]; show (s.n + 1).toNat % 64 + _ ≤ 64; omega) hx0 (Sa.put_ok hs y), hput]
      have e2 : (s.n + 1).toNat % 64 = r + 1 := by omega
      have e3 : (s.pc.set r y).take (r + 1) ++ x ++ (s.pc.set r y).drop (r + 1 + x.length) = s.pc.take r ++ y :: x ++ s.pc.drop (r + (x.length + 1)) := by
        have hA : (s.pc.take r).length = r := by simp; omega
        have hD : s.pc.drop (r + (x.length + 1)) = (s.pc.drop (r + 1)).drop x.length := by rw [List.drop_drop]; congr 1; omega
        rw [hset, hD]
        generalize s.pc.take r = A at hA
        generalize s.pc.drop (r + 1) = B
        rw [List.take_append, List.drop_append, hA, List.take_of_length_le (l := A) (by omega), List.drop_of_length_le (l := A) (by omega), show r + 1 - r = 1 by omega, show r + 1 + x.length - r = x.length + 1 by omega, List.take_succ_cons, List.drop_succ_cons, List.take_zero]
        simp
      simp only [e2, e3, of_succ]
set_option maxRecDepth 8000 in
theorem add_ok {T : Tbl} {a : AV} {bs : List UInt8} {s : Sa} (hs : s.ok) (hb : Bs T a bs) : CallA Tryd.prog Tryd.G 48 [.ag s.c, a] T fun v T' es => v = .ag (s.puts bs).c ∧ T' = T ∧ es = [] := by
  have hc0 : s.c[0]? = some (.p (.bool true)) := rfl
  refine CallA.enterV 39 Tryd.func48 Tryd.ntmps48 (congrArg Array.toList Tryd.results48) rfl ⟨by simp, by simp⟩ (by kernel_rfl) (by kernel_rfl) ?_
  (simp -dsimp +decide only [va, vc, vu, vl, Tryd.ty, Tryd.en, ↓reduceIte, Nat.reduceSub, Nat.reduceAdd, Nat.reduceMul, Nat.reduceLT, Int.reduceAdd, Int.reduceSub, Int.reduceToNat, Int.cast_ofNat_Int])
  (simp -dsimp +decide only [va, vc, vu, vl, Tryd.ty, Tryd.en, ↓reduceIte, Nat.reduceSub, Nat.reduceAdd, Nat.reduceMul, Nat.reduceLT, Int.reduceAdd, Int.reduceSub, Int.reduceToNat, Int.cast_ofNat_Int, hc0])
  refine SemA.loopL (fun x : AV × List UInt8 × Sa => [(1, x.1), (2, .ptr T.length 0), (4, .ptr (T.length + 1) 0)]) (fun x => T ++ [.cells 84 x.2.2.c, .cells 84 zst]) (fun x => Bs T x.1 x.2.1 ∧ x.2.2.ok ∧ x.2.2.puts x.2.1 = s.puts bs) (fun x => x.2.1.length) (a, bs, s) [] (by kernel_rfl) ⟨hb, hs, rfl⟩ (by (simp -dsimp +decide only [va, vc, vu, vl, Tryd.ty, Tryd.en, ↓reduceIte, Nat.reduceSub, Nat.reduceAdd, Nat.reduceMul, Nat.reduceLT, Int.reduceAdd, Int.reduceSub, Int.reduceToNat, Int.cast_ofNat_Int])) rfl (by simp) ?_
  obtain ⟨s₀, hs₀⟩ : ∃ s₀, s₀ = s := ⟨_, rfl⟩
  obtain ⟨b₀, hb₀⟩ : ∃ b₀, b₀ = bs := ⟨_, rfl⟩
  rw [← hs₀, ← hb₀]
  clear hb hs hs₀ hb₀ hc0 s bs a
  rintro ⟨a, bs, s⟩ g ⟨hb, hs, hq⟩
  dsimp only at hb hs hq
  have hr := Sl.rules hb (by decide)
  have hn := Sa.get_n hs
  have hl := Sa.len hs
  (simp -dsimp +decide only [va, vc, vu, vl, Tryd.ty, Tryd.en, ↓reduceIte, Nat.reduceSub, Nat.reduceAdd, Nat.reduceMul, Nat.reduceLT, Int.reduceAdd, Int.reduceSub, Int.reduceToNat, Int.cast_ofNat_Int, hr])
  refine CondP.dec (fun h => ?_) (fun h => ?_)
  · (simp -dsimp +decide (disch := omega) only [va, vc, vu, vl, Tryd.ty, Tryd.en, ↓reduceIte, Nat.reduceSub, Nat.reduceAdd, Nat.reduceMul, Nat.reduceLT, Int.reduceAdd, Int.reduceSub, Int.reduceToNat, Int.cast_ofNat_Int, vi, getO_i, hr, hn, vt, Int.toNat_natCast])
    obtain ⟨r, hr'⟩ : ∃ r, r = s.n.toNat % 64 := ⟨_, rfl⟩
    obtain ⟨m, hm⟩ : ∃ m, m = min bs.length (64 - r) := ⟨_, rfl⟩
    have hml : (bs.take m).length = m := by rw [List.length_take]; omega
    have hp := hs.2
    rw [← hr', ← hm, Sa.wr_pc hs r (bs.take m) (by omega)]
    refine ⟨by omega, by omega, by omega, by omega, by omega, by omega, ?_⟩
    obtain ⟨s1, e1⟩ : ∃ s1 : Sa, s1 = ⟨s.h, s.pc.take r ++ bs.take m ++ s.pc.drop (r + (bs.take m).length), s.n⟩ := ⟨_, rfl⟩
    have hs1 : s1.ok := by rw [e1]; exact ⟨hs.1, by have := hs.2; simp; omega⟩
    rw [← e1]
    have hn1 := Sa.get_n hs1
    have hw1 := Sa.set_n hs1
    have hl1 := Sa.len hs1
    obtain ⟨s2, e2⟩ : ∃ s2 : Sa, s2 = ⟨s1.h, s1.pc, s1.n + UInt64.ofInt (m : Int)⟩ := ⟨_, rfl⟩
    have hs2 : s2.ok := by rw [e2]; exact hs1
    have hn2 := Sa.get_n hs2
    have hl2 := Sa.len hs2
    have habs := absorb (bs.take m) s (by omega) (by omega) hs
    rw [← hr', hml] at habs
    dsimp only at habs
    have fin : ∀ s3 : Sa, s3 = s.puts (bs.take m) → ∃ s' : AV × List UInt8 × Sa, (Bs T s'.1 s'.2.1 ∧ s'.2.2.ok ∧ s'.2.2.puts s'.2.1 = s₀.puts b₀) ∧ s'.2.1.length < bs.length ∧ a.sub 1 m bs.length = s'.1 ∧ T ++ [AObj.cells 84 s3.c, .cells 84 zst] = T ++ [AObj.cells 84 s'.2.2.c, .cells 84 zst] := by
      intro s3 h3
      have hb' := Bs.sub hb (show m ≤ bs.length by omega) (Nat.le_refl _)
      rw [List.take_of_length_le (by simp)] at hb'
      refine ⟨(_, bs.drop m, s3), ⟨hb', h3 ▸ Sa.puts_ok _ hs, ?_⟩, by simp; omega, rfl, rfl⟩
      rw [← hq, h3, Sa.puts, Sa.puts, ← List.foldl_append, List.take_append_drop, Sa.puts]
    (simp -dsimp +decide (disch := omega) only [va, vc, vu, vl, Tryd.ty, Tryd.en, ↓reduceIte, Nat.reduceSub, Nat.reduceAdd, Nat.reduceMul, Nat.reduceLT, Int.reduceAdd, Int.reduceSub, Int.reduceToNat, Int.cast_ofNat_Int, vi, getO_i, hr, hn1, hw1, vt, Int.toNat_natCast, ← e2, hn2])
    refine ⟨by omega, CondP.dec (fun h2 => ?_) (fun h2 => ?_)⟩
    · (simp -dsimp +decide (disch := omega) only [va, vc, vu, vl, Tryd.ty, Tryd.en, ↓reduceIte, Nat.reduceSub, Nat.reduceAdd, Nat.reduceMul, Nat.reduceLT, Int.reduceAdd, Int.reduceSub, Int.reduceToNat, Int.cast_ofNat_Int, vi, getO_i, hr, Sa.get_h hs2])
      refine ⟨by omega, (with_ok (T := T ++ [AObj.cells 84 s2.c, AObj.cells 84 zst]) (i := T.length) (off := 9) (p := s2.pc) (hl := s2.h) (E := 84) (cs := s2.c) (by simp) hs2.2 (Sa.get_pc hs2) hs2.1).det ?_⟩
      (simp -dsimp +decide (disch := omega) only [va, vc, vu, vl, Tryd.ty, Tryd.en, ↓reduceIte, Nat.reduceSub, Nat.reduceAdd, Nat.reduceMul, Nat.reduceLT, Int.reduceAdd, Int.reduceSub, Int.reduceToNat, Int.cast_ofNat_Int, vi, getO_i, hr, hl2])
      have hpl : (piece s2.h s2.pc).length = 8 := by rw [piece, List.length_zipWith, hs2.1]; rfl
      rw [Sa.wr_h hs2 _ hpl]
      refine ⟨by omega, fin ⟨piece s2.h s2.pc, s2.pc, s2.n⟩ (by rw [habs, if_pos (by rw [e2, e1] at h2; exact_mod_cast h2), e2, e1, hml])⟩ 
    · (simp -dsimp +decide (disch := omega) only [va, vc, vu, vl, Tryd.ty, Tryd.en, ↓reduceIte, Nat.reduceSub, Nat.reduceAdd, Nat.reduceMul, Nat.reduceLT, Int.reduceAdd, Int.reduceSub, Int.reduceToNat, Int.cast_ofNat_Int, vi, getO_i, hr])
      exact fin _ (by rw [habs, if_neg (by rw [e2, e1] at h2; exact_mod_cast h2), e2, e1, hml])
  · have hb0 : bs = [] := List.eq_nil_of_length_eq_zero (by omega)
    subst hb0
    (simp -dsimp +decide (disch := omega) only [va, vc, vu, vl, Tryd.ty, Tryd.en, ↓reduceIte, Nat.reduceSub, Nat.reduceAdd, Nat.reduceMul, Nat.reduceLT, Int.reduceAdd, Int.reduceSub, Int.reduceToNat, Int.cast_ofNat_Int, vi, getO_i, hr, hl])
    have ht : s.c.take 74 = s.c := List.take_of_length_le (by omega)
    rw [ht, wrA_all (by rw [hl]; rfl), ht, hl]
    refine ⟨⟨rfl, by omega, by decide, Sa.ones s⟩, by omega, Vw.cut ⟨?_, rfl, rfl⟩⟩
    (simp -dsimp +decide only [va, vc, vu, vl, Tryd.ty, Tryd.en, ↓reduceIte, Nat.reduceSub, Nat.reduceAdd, Nat.reduceMul, Nat.reduceLT, Int.reduceAdd, Int.reduceSub, Int.reduceToNat, Int.cast_ofNat_Int, Sa.wo])
    rw [← hq]; rfl
/-- so many noughts stand ahead of the length -/
def dist (n : UInt64) : Nat := (120 - n.toNat % 64) % 64
def lens (n : UInt64) : List UInt8 := (List.range 8).map fun i => (u64_shr (n * 8) (56 - 8 * i)).toUInt8
def outs (h : List UInt32) : List UInt8 := (List.range 32).map fun i => (u32_shr h[i / 4]! (24 - 8 * (i % 4))).toUInt8
def Sa.padded (s : Sa) : Sa := (s.put 128).puts (List.replicate (dist (s.n + 1)) 0)
def Sa.fin (s : Sa) : List UInt8 := outs (s.padded.puts (lens s.n)).h
def zh : List AV := (List.replicate 32 (0 : UInt8)).map by8
theorem Sa.put_n (s : Sa) (x : UInt8) : (s.put x).n = s.n + 1 := rfl
set_option maxRecDepth 8000 in
theorem end_ok {T : Tbl} {s : Sa} (hs : s.ok) : CallA Tryd.prog Tryd.G 49 [.ag s.c] T fun v T' es => v = .ag (s.fin.map by8) ∧ T' = T ∧ es = [] := by
  refine CallA.wf fun wf => ?_
  have wT : ∀ k, T.map (AObj.wo (fun i => decide (T.length + k ≤ i))) = T := fun k => (wf _ fun i hi => by simp; omega).1
  have hn := Sa.get_n hs
  have hl := Sa.len hs
  have ht : ∀ s : Sa, s.ok → s.c.take 74 = s.c := fun s h => List.take_of_length_le (by rw [Sa.len h]; omega)
  have hs1 := Sa.put_ok hs 128
  refine CallA.enterV 54 Tryd.func49 Tryd.ntmps49 (congrArg Array.toList Tryd.results49) rfl ⟨by simp, by simp⟩ (by kernel_rfl) (by kernel_rfl) ?_
  (simp -dsimp +decide only [va, vc, vu, vl, Tryd.ty, Tryd.en, ↓reduceIte, Nat.reduceSub, Nat.reduceAdd, Nat.reduceMul, Nat.reduceLT, Int.reduceAdd, Int.reduceSub, Int.reduceToNat, Int.cast_ofNat_Int])
  (simp -dsimp +decide only [va, vc, vu, vl, Tryd.ty, Tryd.en, ↓reduceIte, Nat.reduceSub, Nat.reduceAdd, Nat.reduceMul, Nat.reduceLT, Int.reduceAdd, Int.reduceSub, Int.reduceToNat, Int.cast_ofNat_Int, hn])
  refine ⟨by omega, ?_⟩
  rw [ht s hs]
  refine (add_ok hs (bs := [128]) (Bs.obj (T := T ++ [_, _, _]) (o := .buf 5 1 [by8 128]) (by simp; rfl) (by rfl))).det ?_
  have e1 : s.puts [128] = s.put 128 := rfl
  have hl1 := Sa.len hs1
  (simp -dsimp +decide (disch := omega) only [va, vc, vu, vl, Tryd.ty, Tryd.en, ↓reduceIte, Nat.reduceSub, Nat.reduceAdd, Nat.reduceMul, Nat.reduceLT, Int.reduceAdd, Int.reduceSub, Int.reduceToNat, Int.cast_ofNat_Int, vi, getO_i, e1, hl1, hl])
  rw [wrA_all (by rw [hl1, hl])]
  refine ⟨Sa.ones _, ?_⟩
  refine SemA.cut (T.length + 2) (by omega) ?_
  (simp -dsimp +decide only [va, vc, vu, vl, Tryd.ty, Tryd.en, ↓reduceIte, Nat.reduceSub, Nat.reduceAdd, Nat.reduceMul, Nat.reduceLT, Int.reduceAdd, Int.reduceSub, Int.reduceToNat, Int.cast_ofNat_Int, vt, wT, Sa.wo])
  refine SemA.loopC (fun _ : Sa => [(1, .ptr T.length 0), (2, .ptr (T.length + 1) 0), (3, .p (.int .u64 (s.n * UInt64.ofInt 8).toNat))]) (fun s => T ++ [.cells 84 s.c, .cells 23 zh]) (fun x => x.ok ∧ x.puts (List.replicate (dist x.n) 0) = s.padded) (fun x => dist x.n) (T.length + 2) (s.put 128) [] (by kernel_rfl) (by omega) ⟨hs1, rfl⟩ (by (simp -dsimp +decide only [va, vc, vu, vl, Tryd.ty, Tryd.en, ↓reduceIte, Nat.reduceSub, Nat.reduceAdd, Nat.reduceMul, Nat.reduceLT, Int.reduceAdd, Int.reduceSub, Int.reduceToNat, Int.cast_ofNat_Int, vt])) rfl (by simp) ?_
  rintro x g ⟨hx, hq⟩
  have hnx := Sa.get_n hx
  have hlx := Sa.len hx
  (simp -dsimp +decide only [va, vc, vu, vl, Tryd.ty, Tryd.en, ↓reduceIte, Nat.reduceSub, Nat.reduceAdd, Nat.reduceMul, Nat.reduceLT, Int.reduceAdd, Int.reduceSub, Int.reduceToNat, Int.cast_ofNat_Int, hnx, vt])
  have hpx := Sa.put_ok hx 0
  have hlp := Sa.len hpx
  refine CondP.ndec (fun h => ?_) (fun h => ?_)
  · (simp -dsimp +decide only [va, vc, vu, vl, Tryd.ty, Tryd.en, ↓reduceIte, Nat.reduceSub, Nat.reduceAdd, Nat.reduceMul, Nat.reduceLT, Int.reduceAdd, Int.reduceSub, Int.reduceToNat, Int.cast_ofNat_Int, hnx, vt])
    refine ⟨by omega, ?_⟩
    rw [ht x hx]
    refine (add_ok hx (bs := [0]) (Bs.obj (T := T ++ [_, _, _]) (o := .buf 5 1 [by8 0]) (by simp; rfl) (by rfl))).det ?_
    have e2 : x.puts [0] = x.put 0 := rfl
    (simp -dsimp +decide (disch := omega) only [va, vc, vu, vl, Tryd.ty, Tryd.en, ↓reduceIte, Nat.reduceSub, Nat.reduceAdd, Nat.reduceMul, Nat.reduceLT, Int.reduceAdd, Int.reduceSub, Int.reduceToNat, Int.cast_ofNat_Int, vi, getO_i, e2, hlp, hlx, vt, wT, Sa.wo])
    rw [wrA_all (by rw [hlp, hlx])]
    have em := mod_succ x.n
    have ed : dist x.n = dist (x.n + 1) + 1 := by unfold dist; omega
    refine ⟨Sa.ones _, x.put 0, ⟨hpx, ?_⟩, ?_, ?_⟩
    · rw [← hq, ed, List.replicate_succ]; rfl
    · rw [ed, Sa.put_n]; omega
    · rw [Sa.wo]; rfl
  · have hd : dist x.n = 0 := by unfold dist; omega
    have hxp : x = s.padded := by rw [← hq, hd]; rfl
    (simp -dsimp +decide only [va, vc, vu, vl, Tryd.ty, Tryd.en, ↓reduceIte, Nat.reduceSub, Nat.reduceAdd, Nat.reduceMul, Nat.reduceLT, Int.reduceAdd, Int.reduceSub, Int.reduceToNat, Int.cast_ofNat_Int])
    obtain ⟨L8, hL8⟩ : ∃ l, l = lens s.n := ⟨_, rfl⟩
    have hL8l : L8.length = 8 := by rw [hL8]; simp [lens]
    refine SemA.loopL (fun i : Nat => [(1, .ptr T.length 0), (2, .ptr (T.length + 1) 0), (3, .p (.int .u64 (s.n * UInt64.ofInt 8).toNat)), (4, .ptr (T.length + 2) 0), (21, wint i)])
      (fun i => T ++ [.cells 84 x.c, .cells 23 zh, .cells 104 ((L8.take i ++ (List.replicate 8 0).drop i).map by8)]) (fun i => i ≤ 8) (fun i => 8 - i) 0 [] (by kernel_rfl) (by omega) (by (simp -dsimp +decide only [va, vc, vu, vl, Tryd.ty, Tryd.en, ↓reduceIte, Nat.reduceSub, Nat.reduceAdd, Nat.reduceMul, Nat.reduceLT, Int.reduceAdd, Int.reduceSub, Int.reduceToNat, Int.cast_ofNat_Int, vt])) rfl (by simp) ?_
    rintro i g hi
    (simp -dsimp +decide only [va, vc, vu, vl, Tryd.ty, Tryd.en, ↓reduceIte, Nat.reduceSub, Nat.reduceAdd, Nat.reduceMul, Nat.reduceLT, Int.reduceAdd, Int.reduceSub, Int.reduceToNat, Int.cast_ofNat_Int])
    refine CondP.dec (fun h => ?_) (fun h => ?_)
    · (simp -dsimp +decide (disch := omega) only [va, vc, vu, vl, Tryd.ty, Tryd.en, ↓reduceIte, Nat.reduceSub, Nat.reduceAdd, Nat.reduceMul, Nat.reduceLT, Int.reduceAdd, Int.reduceSub, Int.reduceToNat, Int.cast_ofNat_Int, vi, getO_i])
      have hz : L8[i]! = (u64_shr (s.n * UInt64.ofInt 8) (56 - 8 * i)).toUInt8 := by
        rw [getElem!_pos L8 i (by omega)]; simp [hL8, lens]; rfl
      rw [step_set L8 (List.replicate 8 0) i (by omega) (by simp; omega) _ hz]
      exact ⟨by omega, by omega, by simp; omega, i + 1, by omega, by omega, rfl, rfl⟩
    · have hi : i = 8 := by omega
      subst hi
      (simp -dsimp +decide (disch := omega) only [va, vc, vu, vl, Tryd.ty, Tryd.en, ↓reduceIte, Nat.reduceSub, Nat.reduceAdd, Nat.reduceMul, Nat.reduceLT, Int.reduceAdd, Int.reduceSub, Int.reduceToNat, Int.cast_ofNat_Int, vi, getO_i])
      rw [List.take_of_length_le (show L8.length ≤ 8 by omega), show (List.replicate 8 (0 : UInt8)).drop 8 = [] from rfl, List.append_nil]
      refine SemA.draw (fun _ => true) [(0, true), (1, true), (2, false), (3, false)] Tryd.mixed (by kernel_rfl) ?_
      (simp -dsimp +decide (disch := omega) only [va, vc, vu, vl, Tryd.ty, Tryd.en, ↓reduceIte, Nat.reduceSub, Nat.reduceAdd, Nat.reduceMul, Nat.reduceLT, Int.reduceAdd, Int.reduceSub, Int.reduceToNat, Int.cast_ofNat_Int, vi, getO_i, vt])
      refine ⟨by omega, ?_⟩
      rw [ht x hx]
      have hb8 : Bs (T ++ [AObj.cells 84 x.c, .cells 23 zh, .cells 104 (L8.map by8)]) (.sl (T.length + 2) 0 8) L8 := by
        have := Bs.obj (T := T ++ [AObj.cells 84 x.c, .cells 23 zh, .cells 104 (L8.map by8)]) (i := T.length + 2) (o := .cells 104 (L8.map by8)) (bs := L8) (by simp) rfl
        rwa [hL8l] at this
      refine (add_ok hx hb8).det ?_
      have hy := Sa.puts_ok L8 hx
      obtain ⟨y, ey⟩ : ∃ y, y = x.puts L8 := ⟨_, rfl⟩
      rw [← ey] at hy ⊢
      have hly := Sa.len hy
      (simp -dsimp +decide (disch := omega) only [va, vc, vu, vl, Tryd.ty, Tryd.en, ↓reduceIte, Nat.reduceSub, Nat.reduceAdd, Nat.reduceMul, Nat.reduceLT, Int.reduceAdd, Int.reduceSub, Int.reduceToNat, Int.cast_ofNat_Int, vi, getO_i, hly, hlx])
      rw [wrA_all (by rw [hly, hlx])]
      refine ⟨Sa.ones _, ?_⟩
      obtain ⟨O, hO⟩ : ∃ l, l = outs y.h := ⟨_, rfl⟩
      have hOl : O.length = 32 := by rw [hO]; simp [outs]
      refine SemA.loopL (fun i : Nat => [(1, .ptr T.length 0), (2, .ptr (T.length + 1) 0), (6, .ptr (T.length + 3) 0), (36, wint i)])
        (fun i => T ++ [.cells 84 y.c, .cells 23 zh, .cells 104 (L8.map by8), .cells 23 ((O.take i ++ (List.replicate 32 0).drop i).map by8)]) (fun i => i ≤ 32) (fun i => 32 - i) 0 [] (by kernel_rfl) (by omega) (by (simp -dsimp +decide only [va, vc, vu, vl, Tryd.ty, Tryd.en, ↓reduceIte, Nat.reduceSub, Nat.reduceAdd, Nat.reduceMul, Nat.reduceLT, Int.reduceAdd, Int.reduceSub, Int.reduceToNat, Int.cast_ofNat_Int, vt])) rfl (by simp) ?_
      rintro i g hi
      (simp -dsimp +decide only [va, vc, vu, vl, Tryd.ty, Tryd.en, ↓reduceIte, Nat.reduceSub, Nat.reduceAdd, Nat.reduceMul, Nat.reduceLT, Int.reduceAdd, Int.reduceSub, Int.reduceToNat, Int.cast_ofNat_Int])
      refine CondP.dec (fun h => ?_) (fun h => ?_)
      · have hyh := Sa.get_hk hy (i / 4) (by omega)
        have hz : O[i]! = (u32_shr y.h[i / 4]! (24 - 8 * (i % 4))).toUInt8 := by
          rw [getElem!_pos O i (by omega)]; simp [hO, outs]
        (simp -dsimp +decide (disch := omega) only [va, vc, vu, vl, Tryd.ty, Tryd.en, ↓reduceIte, Nat.reduceSub, Nat.reduceAdd, Nat.reduceMul, Nat.reduceLT, Int.reduceAdd, Int.reduceSub, Int.reduceToNat, Int.cast_ofNat_Int, vi, getO_i, vt, hyh, step_set O (List.replicate 32 0) i (by omega) (by simp; omega) _ hz])
        exact ⟨⟨by omega, by omega⟩, by omega, ⟨by omega, by omega⟩, by simp; omega, i + 1, by omega, by omega, rfl, rfl⟩
      · have hi : i = 32 := by omega
        subst hi
        rw [show List.take 32 O ++ List.drop 32 (List.replicate 32 0) = O by rw [List.take_of_length_le (by omega)]; simp]
        have hOt : O.take 32 = O := List.take_of_length_le (by omega)
        (simp -dsimp +decide (disch := omega) only [va, vc, vu, vl, Tryd.ty, Tryd.en, ↓reduceIte, Nat.reduceSub, Nat.reduceAdd, Nat.reduceMul, Nat.reduceLT, Int.reduceAdd, Int.reduceSub, Int.reduceToNat, Int.cast_ofNat_Int, vi, getO_i, hOt, List.drop_zero])
        rw [wrA_all (by simp [hOl, zh])]
        refine ⟨by omega, ⟨by omega, by omega, by simp [hOl, zh]⟩, by simp [hOl], Vw.cut ⟨?_, rfl, rfl⟩⟩
        (simp -dsimp +decide only [va, vc, vu, vl, Tryd.ty, Tryd.en, ↓reduceIte, Nat.reduceSub, Nat.reduceAdd, Nat.reduceMul, Nat.reduceLT, Int.reduceAdd, Int.reduceSub, Int.reduceToNat, Int.cast_ofNat_Int, hOt])
        rw [hO, ey, hxp, hL8, Sa.fin]
/-- **THE SUM** -/
def sha (m : List UInt8) : List UInt8 := (Sa.zero.puts m).fin
theorem zero_ok : Sa.zero.ok := ⟨rfl, rfl⟩
theorem outs_len (h : List UInt32) : (outs h).length = 32 := by simp [outs]
theorem sha_len (m : List UInt8) : (sha m).length = 32 := outs_len _
set_option maxRecDepth 8000 in
theorem sum_ok {T : Tbl} {a : AV} {bs : List UInt8} (hb : Bs T a bs) : CallA Tryd.prog Tryd.G 34 [a] T fun v T' es => v = .ag ((sha bs).map by8) ∧ T' = T ∧ es = [] := by
  have hr := Sl.rules hb (by decide)
  refine CallA.enterV 7 Tryd.func34 Tryd.ntmps34 (congrArg Array.toList Tryd.results34) rfl ⟨by simp, by simp⟩ (by kernel_rfl) (by kernel_rfl) ?_
  (simp -dsimp +decide only [va, vc, vu, vl, Tryd.ty, Tryd.en, ↓reduceIte, Nat.reduceSub, Nat.reduceAdd, Nat.reduceMul, Nat.reduceLT, Int.reduceAdd, Int.reduceSub, Int.reduceToNat, Int.cast_ofNat_Int])
  refine begin_ok.det ?_
  (simp -dsimp +decide only [va, vc, vu, vl, Tryd.ty, Tryd.en, ↓reduceIte, Nat.reduceSub, Nat.reduceAdd, Nat.reduceMul, Nat.reduceLT, Int.reduceAdd, Int.reduceSub, Int.reduceToNat, Int.cast_ofNat_Int, hr])
  refine (add_ok zero_ok (hb.app _)).det ?_
  (simp -dsimp +decide only [va, vc, vu, vl, Tryd.ty, Tryd.en, ↓reduceIte, Nat.reduceSub, Nat.reduceAdd, Nat.reduceMul, Nat.reduceLT, Int.reduceAdd, Int.reduceSub, Int.reduceToNat, Int.cast_ofNat_Int, hr])
  refine (end_ok (Sa.puts_ok bs zero_ok)).det ?_
  (simp -dsimp +decide only [va, vc, vu, vl, Tryd.ty, Tryd.en, ↓reduceIte, Nat.reduceSub, Nat.reduceAdd, Nat.reduceMul, Nat.reduceLT, Int.reduceAdd, Int.reduceSub, Int.reduceToNat, Int.cast_ofNat_Int, hr])
  have hf : ((Sa.zero.puts bs).fin).length = 32 := sha_len bs
  rw [wrA_all (by simp [hf])]
  refine ⟨by omega, by simp [hf], Vw.cut ⟨?_, rfl, rfl⟩⟩
  (simp -dsimp +decide only [va, vc, vu, vl, Tryd.ty, Tryd.en, ↓reduceIte, Nat.reduceSub, Nat.reduceAdd, Nat.reduceMul, Nat.reduceLT, Int.reduceAdd, Int.reduceSub, Int.reduceToNat, Int.cast_ofNat_Int])
  rw [List.take_of_length_le (by omega), sha]
end Go.Proofs.YtmcbdlefakjpoaaDoor

set_option linter.unusedSimpArgs false
set_option linter.unusedVariables false
set_option linter.unusedSectionVars false
namespace Go.Proofs.YtmcbdlefakjpoaaDoor
open Go.E
def distn (n : Nat) : Nat := (120 - n % 64) % 64
/-- the text of bytes -/
def txt (m : List UInt8) : List UInt8 := m ++ 128 :: (List.replicate (distn (m.length + 1)) 0 ++ lens (UInt64.ofInt (m.length : Int)))
theorem txt_len (m : List UInt8) : (txt m).length % 64 = 0 := by
  simp [txt, lens, distn]; omega
theorem sh_num : ∀ j : Nat, j < 8 → (UInt64.ofInt 8 * (UInt64.ofInt 7 - UInt64.ofInt (j : Int))).toNat = 56 - 8 * j := by decide +kernel
theorem take_next {α : Type} [Inhabited α] (l : List α) (k : Nat) (h : k < l.length) : l.take k ++ [l[k]!] = l.take (k + 1) := by
  rw [getElem!_pos l k h, List.take_succ_eq_append_getElem h]
set_option maxRecDepth 8000 in
theorem text_ok {T : Tbl} {a : AV} {bs : List UInt8} (hb : Bs T a bs) (hlen : bs.length ≤ 1099511627776) : CallA Tryd.prog Tryd.G 60 [a] T fun v T' es => v = .sl T.length 0 (txt bs).length ∧ T' = T ++ [.buf 5 1 ((txt bs).map by8)] ∧ es = [] := by
  have hr := Sl.rules hb (by decide)
  refine CallA.wfs fun wf => ?_
  have wt := wf.t
  have wa := wf.arg a (by simp)
  refine CallA.enterV 37 Tryd.func60 Tryd.ntmps60 (congrArg Array.toList Tryd.results60) rfl ⟨by simp, by simp⟩ (by kernel_rfl) (by kernel_rfl) ?_
  (simp -dsimp +decide only [va, vc, vu, vl, Tryd.ty, Tryd.en, ↓reduceIte, Nat.reduceSub, Nat.reduceAdd, Nat.reduceMul, Nat.reduceLT, Int.reduceAdd, Int.reduceSub, Int.reduceToNat, Int.cast_ofNat_Int])
  (simp -dsimp +decide (disch := omega) only [va, vc, vu, vl, Tryd.ty, Tryd.en, ↓reduceIte, Nat.reduceSub, Nat.reduceAdd, Nat.reduceMul, Nat.reduceLT, Int.reduceAdd, Int.reduceSub, Int.reduceToNat, Int.cast_ofNat_Int, vi, getO_i, hr, vt, wt])
  refine ⟨by omega, by omega, ?_⟩
  refine SemA.cut (T.length + 1) (by omega) ?_
  (simp -dsimp +decide only [va, vc, vu, vl, Tryd.ty, Tryd.en, ↓reduceIte, Nat.reduceSub, Nat.reduceAdd, Nat.reduceMul, Nat.reduceLT, Int.reduceAdd, Int.reduceSub, Int.reduceToNat, Int.cast_ofNat_Int, vt, wt, wa])
  refine SemA.loopC (fun o : List UInt8 => [(0, a), (3, .sl T.length 0 o.length)]) (fun o => T ++ [.buf 5 1 (o.map by8)]) (fun o => o.length ≤ bs.length + 100 ∧ o ++ List.replicate (distn o.length) 0 = bs ++ 128 :: List.replicate (distn (bs.length + 1)) 0) (fun o => distn o.length) (T.length + 1) (bs ++ [128]) [] (by kernel_rfl) (by omega) ⟨by simp, by simp⟩ (by (simp -dsimp +decide only [va, vc, vu, vl, Tryd.ty, Tryd.en, ↓reduceIte, Nat.reduceSub, Nat.reduceAdd, Nat.reduceMul, Nat.reduceLT, Int.reduceAdd, Int.reduceSub, Int.reduceToNat, Int.cast_ofNat_Int, vt, List.length_append]); rfl) (by rw [List.map_append]; rfl) (by simp) ?_
  rintro o g ⟨hol, ho⟩
  (simp -dsimp +decide only [va, vc, vu, vl, Tryd.ty, Tryd.en, ↓reduceIte, Nat.reduceSub, Nat.reduceAdd, Nat.reduceMul, Nat.reduceLT, Int.reduceAdd, Int.reduceSub, Int.reduceToNat, Int.cast_ofNat_Int, vt])
  refine CondP.ndec (fun h => ?_) (fun h => ?_)
  · (simp -dsimp +decide (disch := omega) only [va, vc, vu, vl, Tryd.ty, Tryd.en, ↓reduceIte, Nat.reduceSub, Nat.reduceAdd, Nat.reduceMul, Nat.reduceLT, Int.reduceAdd, Int.reduceSub, Int.reduceToNat, Int.cast_ofNat_Int, vi, getO_i, vt, wt, wa])
    have ed : distn o.length = distn (o.length + 1) + 1 := by unfold distn; omega
    refine ⟨by omega, o ++ [0], ⟨?_, ?_⟩, ?_, ?_, ?_⟩
    · have := congrArg List.length ho
      simp [distn] at this ⊢
      omega
    · rw [← ho, ed, List.replicate_succ]; simp
    · simp; omega
    · simp
    · rw [List.map_append]; rfl
  · have hd : distn o.length = 0 := by unfold distn; omega
    rw [hd, List.replicate_zero, List.append_nil] at ho
    (simp -dsimp +decide only [va, vc, vu, vl, Tryd.ty, Tryd.en, ↓reduceIte, Nat.reduceSub, Nat.reduceAdd, Nat.reduceMul, Nat.reduceLT, Int.reduceAdd, Int.reduceSub, Int.reduceToNat, Int.cast_ofNat_Int, hr])
    have hol2 : o.length ≤ bs.length + 65 := by
      have := congrArg List.length ho
      simp [distn] at this
      omega
    have hl8 : (lens (UInt64.ofInt (bs.length : Int))).length = 8 := by simp [lens]
    obtain ⟨L8, hL8⟩ : ∃ l, l = lens (UInt64.ofInt (bs.length : Int)) := ⟨_, rfl⟩
    rw [← hL8] at hl8
    refine SemA.loopC (fun j : Nat => [(3, .sl T.length 0 (o.length + j)), (4, .p (.int .u64 ((UInt64.ofInt (bs.length : Int) * UInt64.ofInt 8).toNat : Int))), (5, wint (7 - (j : Int)))]) (fun j => T ++ [.buf 5 1 ((o ++ L8.take j).map by8)]) (fun j => j ≤ 8) (fun j => 8 - j) (T.length + 1) 0 [] (by kernel_rfl) (by omega) (by omega) (by (simp -dsimp +decide only [va, vc, vu, vl, Tryd.ty, Tryd.en, ↓reduceIte, Nat.reduceSub, Nat.reduceAdd, Nat.reduceMul, Nat.reduceLT, Int.reduceAdd, Int.reduceSub, Int.reduceToNat, Int.cast_ofNat_Int, vt])) (by (simp -dsimp +decide only [va, vc, vu, vl, Tryd.ty, Tryd.en, ↓reduceIte, Nat.reduceSub, Nat.reduceAdd, Nat.reduceMul, Nat.reduceLT, Int.reduceAdd, Int.reduceSub, Int.reduceToNat, Int.cast_ofNat_Int, vt, List.take_zero, List.append_nil])) (by simp) ?_
    rintro j g hj
    (simp -dsimp +decide only [va, vc, vu, vl, Tryd.ty, Tryd.en, ↓reduceIte, Nat.reduceSub, Nat.reduceAdd, Nat.reduceMul, Nat.reduceLT, Int.reduceAdd, Int.reduceSub, Int.reduceToNat, Int.cast_ofNat_Int])
    refine CondP.dec (fun h => ?_) (fun h => ?_)
    · (simp -dsimp +decide (disch := omega) only [va, vc, vu, vl, Tryd.ty, Tryd.en, ↓reduceIte, Nat.reduceSub, Nat.reduceAdd, Nat.reduceMul, Nat.reduceLT, Int.reduceAdd, Int.reduceSub, Int.reduceToNat, Int.cast_ofNat_Int, vi, getO_i, vt, wt, wa])
      have hz : L8[j]! = (u64_shr (UInt64.ofInt (bs.length : Int) * UInt64.ofInt 8) (UInt64.ofInt 8 * (UInt64.ofInt 7 - UInt64.ofInt (j : Int))).toNat).toUInt8 := by
        rw [getElem!_pos L8 j (by omega), sh_num j (by omega)]; simp [hL8, lens]; rfl
      refine ⟨⟨by simp; omega, by omega, by omega⟩, j + 1, by omega, by omega, ⟨rfl, ?_⟩, ?_⟩
      · rw [show (7 : Int) - (j : Int) - 1 = 7 - ((j + 1 : Nat) : Int) by omega]
      · rw [← hz, List.append_assoc, take_next L8 j (by omega)]
    · have hj : j = 8 := by omega
      subst hj
      (simp -dsimp +decide only [va, vc, vu, vl, Tryd.ty, Tryd.en, ↓reduceIte, Nat.reduceSub, Nat.reduceAdd, Nat.reduceMul, Nat.reduceLT, Int.reduceAdd, Int.reduceSub, Int.reduceToNat, Int.cast_ofNat_Int])
      have e : o ++ L8.take 8 = txt bs := by
        rw [List.take_of_length_le (by omega), ho, hL8, txt]; simp
      rw [e]
      refine Vw.done ⟨?_, rfl, rfl⟩
      rw [← e, List.length_append, List.take_of_length_le (by omega), hl8]
theorem words_be (p : List UInt8) (t : Nat) : be32 p t 4 = (u32_shl (p[4 * t]!).toUInt32 24 ||| u32_shl (p[4 * t + 1]!).toUInt32 16 ||| u32_shl (p[4 * t + 2]!).toUInt32 8 ||| (p[4 * t + 3]!).toUInt32) := by
  simp only [be32, Nat.add_zero]
  generalize (p[4 * t]!).toUInt32 = a
  generalize (p[4 * t + 1]!).toUInt32 = b
  generalize (p[4 * t + 2]!).toUInt32 = c
  generalize (p[4 * t + 3]!).toUInt32 = d
  apply UInt32.eq_of_toBitVec_eq
  simp [u32_shl]
  simp only [BitVec.shiftLeft_or_distrib, ← BitVec.shiftLeft_add]
theorem ch_eq (e f g : UInt32) : (g ^^^ e &&& (f ^^^ g)) = (e &&& f) ^^^ (~~~ e &&& g) := by
  apply UInt32.eq_of_toBitVec_eq
  ext i
  simp
  cases e.toBitVec[i] <;> cases f.toBitVec[i] <;> cases g.toBitVec[i] <;> rfl
theorem maj_eq (a b c : UInt32) : (a &&& b ||| c &&& (a ||| b)) = (a &&& b) ^^^ (a &&& c) ^^^ (b &&& c) := by
  apply UInt32.eq_of_toBitVec_eq
  ext i
  simp
  cases a.toBitVec[i] <;> cases b.toBitVec[i] <;> cases c.toBitVec[i] <;> rfl
set_option maxRecDepth 8000 in
theorem k_ok {T : Tbl} : CallA Tryd.prog Tryd.G 61 [] T fun v T' es => v = .sl T.length 0 64 ∧ T' = T ++ [.buf 79 1 (tbl.map w32)] ∧ es = [] := by
  refine CallA.enterV 2 Tryd.func61 Tryd.ntmps61 (congrArg Array.toList Tryd.results61) rfl ⟨by simp, by simp⟩ (by kernel_rfl) (by kernel_rfl) ?_
  (simp -dsimp +decide only [va, vc, vu, vl, Tryd.ty, Tryd.en, ↓reduceIte, Nat.reduceSub, Nat.reduceAdd, Nat.reduceMul, Nat.reduceLT, Int.reduceAdd, Int.reduceSub, Int.reduceToNat, Int.cast_ofNat_Int])
  exact Vw.done ⟨rfl, by rfl, rfl⟩
theorem sch_get (p : List UInt8) (t k : Nat) (h : k < t) (f : List UInt32 → List UInt32) : (sch p t)[k]? = some (sch p t)[k]! := by
  rw [getElem!_pos _ _ (by rw [sch_len]; exact h), List.getElem?_eq_getElem]
theorem sch_snoc_lo (p : List UInt8) (t : Nat) (h : t < 16) : sch p (t + 1) = sch p t ++ [be32 p t 4] := by
  rw [sch, nextW, sch_len, if_pos h]
theorem sch_snoc_hi (p : List UInt8) (t : Nat) (h : 16 ≤ t) : sch p (t + 1) = sch p t ++ [(rotr (sch p t)[t - 2]! 17 ^^^ rotr (sch p t)[t - 2]! 19 ^^^ u32_shr (sch p t)[t - 2]! 10) + (sch p t)[t - 7]! + (rotr (sch p t)[t - 15]! 7 ^^^ rotr (sch p t)[t - 15]! 18 ^^^ u32_shr (sch p t)[t - 15]! 3) + (sch p t)[t - 16]!] := by
  rw [sch, nextW, sch_len, if_neg (by omega)]
  simp only [sg0, sg1]
  congr 2
  ac_rfl
def wtb (T : Tbl) (p : List UInt8) : Nat → Tbl
  | 0 => T
  | t + 1 => T ++ [.buf 79 1 [w32 (be32 p 0 4)], .buf 79 1 ((sch p (t + 1)).map w32)]
set_option maxRecDepth 8000 in
theorem words_ok {T : Tbl} {a : AV} {p : List UInt8} (hb : Bs T a p) (hp : p.length = 64) : CallA Tryd.prog Tryd.G 62 [a] T fun v T' es => v = .sl (T.length + 1) 0 64 ∧ T' = T ++ [.buf 79 1 [w32 (be32 p 0 4)], .buf 79 1 ((sch p 64).map w32)] ∧ es = [] := by
  have hr := Sl.rules hb (by decide)
  have hld := Sl.loads hb (P := Tryd.prog) (t := 5) (by (simp -dsimp +decide only [va, vc, vu, vl, Tryd.ty, Tryd.en, ↓reduceIte, Nat.reduceSub, Nat.reduceAdd, Nat.reduceMul, Nat.reduceLT, Int.reduceAdd, Int.reduceSub, Int.reduceToNat, Int.cast_ofNat_Int]))
  refine CallA.wfs fun wf => ?_
  have wt := wf.t
  have wa := wf.arg a (by simp)
  refine CallA.enterV 99 Tryd.func62 Tryd.ntmps62 (congrArg Array.toList Tryd.results62) rfl ⟨by simp, by simp⟩ (by kernel_rfl) (by kernel_rfl) ?_
  (simp -dsimp +decide only [va, vc, vu, vl, Tryd.ty, Tryd.en, ↓reduceIte, Nat.reduceSub, Nat.reduceAdd, Nat.reduceMul, Nat.reduceLT, Int.reduceAdd, Int.reduceSub, Int.reduceToNat, Int.cast_ofNat_Int])
  refine SemA.loopC (fun t : Nat => [(0, a), (3, if t = 0 then .p (.slice none 0 0) else .sl (T.length + 1) 0 t), (4, wint t)]) (wtb T p) (fun t => t ≤ 16) (fun t => 16 - t) (T.length + 2) 0 [] (by kernel_rfl) (by omega) (by omega) (by (simp -dsimp +decide only [va, vc, vu, vl, Tryd.ty, Tryd.en, ↓reduceIte, Nat.reduceSub, Nat.reduceAdd, Nat.reduceMul, Nat.reduceLT, Int.reduceAdd, Int.reduceSub, Int.reduceToNat, Int.cast_ofNat_Int, vt])) rfl (by simp) ?_
  rintro t g ht
  (simp -dsimp +decide only [va, vc, vu, vl, Tryd.ty, Tryd.en, ↓reduceIte, Nat.reduceSub, Nat.reduceAdd, Nat.reduceMul, Nat.reduceLT, Int.reduceAdd, Int.reduceSub, Int.reduceToNat, Int.cast_ofNat_Int])
  refine CondP.dec (fun h => ?_) (fun h => ?_)
  · refine SemA.drawE 35 (fun _ => true) [(0, true), (1, true), (2, true), (3, true), (4, true), (5, true), (6, true), (7, true), (8, true), (9, true), (10, true), (11, true), (12, true), (13, true), (14, true), (15, true), (16, true), (17, true), (18, true), (19, true), (20, true), (21, true), (22, true), (23, true), (24, true), (25, true), (26, true), (27, true), (28, true), (29, true), (30, true), (31, true), (32, true), (33, true), (34, false), (35, false), (36, true)] Tryd.mixed (by kernel_rfl) ?_
    cases t with
    | zero =>
      (simp -dsimp +decide (disch := omega) only [va, vc, vu, vl, Tryd.ty, Tryd.en, ↓reduceIte, Nat.reduceSub, Nat.reduceAdd, Nat.reduceMul, Nat.reduceLT, Int.reduceAdd, Int.reduceSub, Int.reduceToNat, Int.cast_ofNat_Int, vi, getO_i, vt, wt, wa, hr, hld, wtb])
      refine ⟨by omega, by omega, by omega, by omega, 1, by omega, by omega, ⟨rfl, rfl⟩, ?_⟩
      show _ = T ++ [.buf 79 1 [w32 (be32 p 0 4)], .buf 79 1 [w32 (be32 p 0 4)]]
      rw [words_be]
      rfl
    | succ t =>
      have hne : (t + 1 = 0) = False := by simp
      have hsl := sch_len p (t + 1)
      (simp -dsimp +decide (disch := omega) only [va, vc, vu, vl, Tryd.ty, Tryd.en, ↓reduceIte, Nat.reduceSub, Nat.reduceAdd, Nat.reduceMul, Nat.reduceLT, Int.reduceAdd, Int.reduceSub, Int.reduceToNat, Int.cast_ofNat_Int, vi, getO_i, vt, wt, wa, hr, hld, wtb, hsl, hne, if_false])
      rw [← words_be]
      refine ⟨by omega, by omega, by omega, by omega, by omega, t + 2, by omega, by omega, ⟨rfl, ?_⟩, ?_⟩
      · rw [show ((t + 1 : Nat) : Int) + 1 = ((t + 2 : Nat) : Int) by omega]
      · show _ = T ++ [AObj.buf 79 1 [w32 (be32 p 0 4)], AObj.buf 79 1 ((sch p (t + 1 + 1)).map w32)]
        rw [sch_snoc_lo p (t + 1) (by omega)]; rfl
  · have ht : t = 16 := by omega
    subst ht
    (simp -dsimp +decide only [va, vc, vu, vl, Tryd.ty, Tryd.en, ↓reduceIte, Nat.reduceSub, Nat.reduceAdd, Nat.reduceMul, Nat.reduceLT, Int.reduceAdd, Int.reduceSub, Int.reduceToNat, Int.cast_ofNat_Int])
    refine SemA.loopC (fun t : Nat => [(3, .sl (T.length + 1) 0 t), (5, wint (t : Int))]) (fun t => T ++ [.buf 79 1 [w32 (be32 p 0 4)], .buf 79 1 ((sch p t).map w32)]) (fun t => 16 ≤ t ∧ t ≤ 64) (fun t => 64 - t) (T.length + 2) 16 [] (by kernel_rfl) (by omega) ⟨by omega, by omega⟩ (by (simp -dsimp +decide only [va, vc, vu, vl, Tryd.ty, Tryd.en, ↓reduceIte, Nat.reduceSub, Nat.reduceAdd, Nat.reduceMul, Nat.reduceLT, Int.reduceAdd, Int.reduceSub, Int.reduceToNat, Int.cast_ofNat_Int, vt])) rfl (by simp) ?_
    rintro t g ⟨ht1, ht⟩
    (simp -dsimp +decide only [va, vc, vu, vl, Tryd.ty, Tryd.en, ↓reduceIte, Nat.reduceSub, Nat.reduceAdd, Nat.reduceMul, Nat.reduceLT, Int.reduceAdd, Int.reduceSub, Int.reduceToNat, Int.cast_ofNat_Int])
    have hsl := sch_len p t
    have hnil : sch p t ≠ [] := by intro e; rw [e] at hsl; simp at hsl; omega
    refine CondP.dec (fun h => ?_) (fun h => ?_)
    · (simp -dsimp +decide (disch := omega) only [va, vc, vu, vl, Tryd.ty, Tryd.en, ↓reduceIte, Nat.reduceSub, Nat.reduceAdd, Nat.reduceMul, Nat.reduceLT, Int.reduceAdd, Int.reduceSub, Int.reduceToNat, Int.cast_ofNat_Int, vi, getO_i, vt, wt])
      refine ⟨⟨by omega, by omega, by simp [hnil]⟩, ⟨by omega, by omega, by simp [hnil]⟩, ?_⟩
      refine (rright_ok 7 (by omega) (by omega)).det ?_
      (simp -dsimp +decide (disch := omega) only [va, vc, vu, vl, Tryd.ty, Tryd.en, ↓reduceIte, Nat.reduceSub, Nat.reduceAdd, Nat.reduceMul, Nat.reduceLT, Int.reduceAdd, Int.reduceSub, Int.reduceToNat, Int.cast_ofNat_Int, vi, getO_i, vt, wt])
      refine (rright_ok 18 (by omega) (by omega)).det ?_
      (simp -dsimp +decide (disch := omega) only [va, vc, vu, vl, Tryd.ty, Tryd.en, ↓reduceIte, Nat.reduceSub, Nat.reduceAdd, Nat.reduceMul, Nat.reduceLT, Int.reduceAdd, Int.reduceSub, Int.reduceToNat, Int.cast_ofNat_Int, vi, getO_i, vt, wt])
      refine (rright_ok 17 (by omega) (by omega)).det ?_
      (simp -dsimp +decide (disch := omega) only [va, vc, vu, vl, Tryd.ty, Tryd.en, ↓reduceIte, Nat.reduceSub, Nat.reduceAdd, Nat.reduceMul, Nat.reduceLT, Int.reduceAdd, Int.reduceSub, Int.reduceToNat, Int.cast_ofNat_Int, vi, getO_i, vt, wt])
      refine (rright_ok 19 (by omega) (by omega)).det ?_
      (simp -dsimp +decide (disch := omega) only [va, vc, vu, vl, Tryd.ty, Tryd.en, ↓reduceIte, Nat.reduceSub, Nat.reduceAdd, Nat.reduceMul, Nat.reduceLT, Int.reduceAdd, Int.reduceSub, Int.reduceToNat, Int.cast_ofNat_Int, vi, getO_i, vt, wt])
      refine SemA.drawE 17 (fun _ => true) [(0, true), (1, true), (2, true), (3, true), (4, true), (5, true), (6, true), (7, true), (8, true), (9, true), (10, true), (11, true), (12, true), (13, true), (14, true), (15, true), (16, false), (17, false), (18, true)] Tryd.mixed (by kernel_rfl) ?_
      (simp -dsimp +decide (disch := omega) only [va, vc, vu, vl, Tryd.ty, Tryd.en, ↓reduceIte, Nat.reduceSub, Nat.reduceAdd, Nat.reduceMul, Nat.reduceLT, Int.reduceAdd, Int.reduceSub, Int.reduceToNat, Int.cast_ofNat_Int, vi, getO_i, vt, wt])
      refine ⟨⟨by omega, by omega, by simp [hnil]⟩, ⟨by omega, by omega, by simp [hnil]⟩, ⟨by omega, by omega, by omega⟩, t + 1, ⟨by omega, by omega⟩, by omega, ⟨rfl, rfl⟩, ?_⟩
      rw [sch_snoc_hi p t (by omega)]
    · have ht : t = 64 := by omega
      subst ht
      (simp -dsimp +decide only [va, vc, vu, vl, Tryd.ty, Tryd.en, ↓reduceIte, Nat.reduceSub, Nat.reduceAdd, Nat.reduceMul, Nat.reduceLT, Int.reduceAdd, Int.reduceSub, Int.reduceToNat, Int.cast_ofNat_Int])
      exact Vw.done ⟨rfl, rfl, rfl⟩
end Go.Proofs.YtmcbdlefakjpoaaDoor

set_option linter.unusedSimpArgs false
set_option linter.unusedVariables false
set_option linter.unusedSectionVars false
namespace Go.Proofs.YtmcbdlefakjpoaaDoor
open Go.E
/-- the words behind the pieces of a text -/
def hsum (m : List UInt8) (at_ : Nat) : List UInt32 := (Sa.zero.puts ((txt m).take at_)).h
theorem puts_n (l : List UInt8) : ∀ s : Sa, (s.puts l).n.toNat % 64 = (s.n.toNat + l.length) % 64 := by
  induction l with
  | nil => intro s; simp [Sa.puts]
  | cons x l ih =>
    intro s
    show ((s.put x).puts l).n.toNat % 64 = _
    rw [ih, Sa.put_n, List.length_cons]
    have := mod_succ s.n
    omega
theorem hsum_next (m : List UInt8) (j : Nat) (h : 64 * j + 64 ≤ (txt m).length) : hsum m (64 * j + 64) = piece (hsum m (64 * j)) (((txt m).drop (64 * j)).take 64) := by
  have hok := Sa.puts_ok ((txt m).take (64 * j)) zero_ok
  have hn := puts_n ((txt m).take (64 * j)) Sa.zero
  have hpl : (((txt m).drop (64 * j)).take 64).length = 64 := by simp; omega
  rw [hsum, hsum, List.take_add, Sa.puts, List.foldl_append]
  show ((Sa.zero.puts ((txt m).take (64 * j))).puts _).h = _
  generalize Sa.zero.puts ((txt m).take (64 * j)) = s at hok hn
  have hn0 : s.n.toNat % 64 = 0 := by
    rw [hn, List.length_take, Nat.min_eq_left (by omega)]; show (0 + 64 * j) % 64 = 0; omega
  have hpc := hok.2
  rw [absorb _ s (by omega) (by omega) hok, hpl, hn0]
  have e : (s.n + UInt64.ofInt ((64 : Nat) : Int)).toNat % 64 = 0 := by
    rw [UInt64.toNat_add, show (UInt64.ofInt ((64 : Nat) : Int)).toNat = 64 from rfl]; omega
  simp only [e, if_true]
  rw [List.take_zero, List.drop_of_length_le (l := s.pc) (by omega)]; simp
theorem hsum_len (m : List UInt8) (k : Nat) : (hsum m k).length = 8 := (Sa.puts_ok _ zero_ok).1
theorem hsum_zero (m : List UInt8) : hsum m 0 = init := rfl
theorem un_xor32 {P : Program} {x : UInt32} {KA : AV → Prop} {KV : Value → Prop} (h : KA (.p (.int .u32 ((~~~x).toNat : Int)))) : unV .xor (.int .u32 (x.toNat : Int)) (pureK P KA) KV := by
  refine ⟨.int .u32 ((~~~x).toNat : Int), fun w _ => ?_, h⟩
  have e : IntKind.u32.wrap ((BitVec.ofInt IntKind.u32.bits IntKind.u32.max ^^^ BitVec.ofInt IntKind.u32.bits (x.toNat : Int)).toNat : Int) = ((~~~x).toNat : Int) := by
    rw [Go.E.u32_wrap, Go.E.u32_xor, Go.E.u32_self]
    have : UInt32.ofInt IntKind.u32.max ^^^ x = ~~~x := by
      rw [show UInt32.ofInt IntKind.u32.max = ~~~(0 : UInt32) from rfl]
      apply UInt32.eq_of_toBitVec_eq
      ext i
      simp
    rw [this]
  show (pure (Value.int .u32 (IntKind.u32.wrap ((BitVec.ofInt IntKind.u32.bits IntKind.u32.max ^^^ BitVec.ofInt IntKind.u32.bits (x.toNat : Int)).toNat : Int))) : Sem Value).run P w = _
  rw [e]; rfl
theorem rnd_cells (s : W8) (k w : UInt32) : [AV.p (.int .u32 ((s.h + (rotr s.e 6 ^^^ rotr s.e 11 ^^^ rotr s.e 25) + (s.e &&& s.f ^^^ ~~~s.e &&& s.g) + k + w + ((rotr s.a 2 ^^^ rotr s.a 13 ^^^ rotr s.a 22) + (s.a &&& s.b ^^^ s.a &&& s.c ^^^ s.b &&& s.c))).toNat : Int)), AV.p (.int .u32 (s.a.toNat : Int)), AV.p (.int .u32 (s.b.toNat : Int)), AV.p (.int .u32 (s.c.toNat : Int)),
    AV.p (.int .u32 ((s.d + (s.h + (rotr s.e 6 ^^^ rotr s.e 11 ^^^ rotr s.e 25) + (s.e &&& s.f ^^^ ~~~s.e &&& s.g) + k + w)).toNat : Int)), AV.p (.int .u32 (s.e.toNat : Int)), AV.p (.int .u32 (s.f.toNat : Int)), AV.p (.int .u32 (s.g.toNat : Int))] = (rnd s k w).l.map w32 := by
  rw [← ch_eq, ← maj_eq]
  rfl
theorem sh_num2 : ∀ r : Nat, r < 4 → (UInt64.ofInt 24 - UInt64.ofInt 8 * UInt64.ofInt (r : Int)).toNat = 24 - 8 * r := by decide +kernel
theorem clean32 (l : List UInt32) : ∀ a ∈ l.map w32, a.Clean := by
  intro a ha; obtain ⟨x, _, rfl⟩ := List.mem_map.1 ha; exact .p _
theorem w8_of {l : List UInt32} (h : l.length = 8) : (W8.of l).l = l := by
  match l, h with
  | [a, b, c, d, e, f, g, i], _ => rfl
theorem W8.gl (s : W8) : s.l[0]! = s.a ∧ s.l[1]! = s.b ∧ s.l[2]! = s.c ∧ s.l[3]! = s.d ∧ s.l[4]! = s.e ∧ s.l[5]! = s.f ∧ s.l[6]! = s.g ∧ s.l[7]! = s.h := ⟨rfl, rfl, rfl, rfl, rfl, rfl, rfl, rfl⟩
set_option maxHeartbeats 2000000 in
set_option maxRecDepth 8000 in
theorem rsum_ok {T : Tbl} {a : AV} {bs : List UInt8} (hb : Bs T a bs) (hlen : bs.length ≤ 1099511627776) : CallA Tryd.prog Tryd.G 38 [a] T fun v T' es => v = .ag ((outs (hsum bs (txt bs).length)).map by8) ∧ T' = T ∧ es = [] := by
  have hr := Sl.rules hb (by decide)
  refine CallA.wfs fun wf => ?_
  have wt := wf.t
  have wa := wf.arg a (by simp)
  refine CallA.enterV 171 Tryd.func38 Tryd.ntmps38 (congrArg Array.toList Tryd.results38) rfl ⟨by simp, by simp⟩ (by kernel_rfl) (by kernel_rfl) ?_
  (simp -dsimp +decide only [va, vc, vu, vl, Tryd.ty, Tryd.en, ↓reduceIte, Nat.reduceSub, Nat.reduceAdd, Nat.reduceMul, Nat.reduceLT, Int.reduceAdd, Int.reduceSub, Int.reduceToNat, Int.cast_ofNat_Int])
  refine (text_ok (hb.app _) hlen).mono ?_
  rintro v T' es ⟨rfl, rfl, rfl⟩
  (simp -dsimp +decide only [va, vc, vu, vl, Tryd.ty, Tryd.en, ↓reduceIte, Nat.reduceSub, Nat.reduceAdd, Nat.reduceMul, Nat.reduceLT, Int.reduceAdd, Int.reduceSub, Int.reduceToNat, Int.cast_ofNat_Int])
  refine k_ok.mono ?_
  rintro v T' es ⟨rfl, rfl, rfl⟩
  (simp -dsimp +decide only [va, vc, vu, vl, Tryd.ty, Tryd.en, ↓reduceIte, Nat.reduceSub, Nat.reduceAdd, Nat.reduceMul, Nat.reduceLT, Int.reduceAdd, Int.reduceSub, Int.reduceToNat, Int.cast_ofNat_Int])
  have htl := txt_len bs
  obtain ⟨X, hX⟩ : ∃ X, X = txt bs := ⟨_, rfl⟩
  rw [← hX] at htl ⊢
  have htab : tbl.length = 64 := rfl
  have hXl : X.length ≤ 1099511627900 := by rw [hX]; simp [txt, lens, distn]; omega
  refine SemA.loopV (fun j : Nat => [(2, .ptr T.length 0), (3, .sl (T.length + 1) 0 8), (4, .sl (T.length + 2) 0 X.length), (5, .sl (T.length + 3) 0 64), (6, wint ((64 * j : Nat) : Int))])
    (fun j => T ++ [.cells 23 zh, .buf 79 1 ((hsum bs (64 * j)).map w32), .buf 5 1 (X.map by8), .buf 79 1 (tbl.map w32)]) (fun j => 64 * j ≤ X.length) (fun j => X.length - 64 * j) 0 [] (by kernel_rfl) (by omega) (by (simp -dsimp +decide only [va, vc, vu, vl, Tryd.ty, Tryd.en, ↓reduceIte, Nat.reduceSub, Nat.reduceAdd, Nat.reduceMul, Nat.reduceLT, Int.reduceAdd, Int.reduceSub, Int.reduceToNat, Int.cast_ofNat_Int])) rfl (by simp) ?_
  rintro j g hj
  (simp -dsimp +decide only [va, vc, vu, vl, Tryd.ty, Tryd.en, ↓reduceIte, Nat.reduceSub, Nat.reduceAdd, Nat.reduceMul, Nat.reduceLT, Int.reduceAdd, Int.reduceSub, Int.reduceToNat, Int.cast_ofNat_Int])
  refine CondP.dec (fun h => ?_) (fun h => ?_)
  · obtain ⟨p, hp⟩ : ∃ p, p = (X.drop (64 * j)).take 64 := ⟨_, rfl⟩
    have hpl : p.length = 64 := by rw [hp]; simp; omega
    have hsl := sch_len p 64
    obtain ⟨hs, hhs⟩ : ∃ hs, hs = hsum bs (64 * j) := ⟨_, rfl⟩
    have hhl : hs.length = 8 := by rw [hhs]; exact hsum_len _ _
    rw [← hhs]
    (simp -dsimp +decide (disch := omega) only [va, vc, vu, vl, Tryd.ty, Tryd.en, ↓reduceIte, Nat.reduceSub, Nat.reduceAdd, Nat.reduceMul, Nat.reduceLT, Int.reduceAdd, Int.reduceSub, Int.reduceToNat, Int.cast_ofNat_Int, vi, getO_i, vt])
    rw [show 64 * j + 64 - 64 * j = 64 by omega]
    refine ⟨by omega, by omega, ⟨by omega, by omega⟩, ?_⟩
    have hbp : Bs (T ++ [AObj.cells 23 zh, .buf 79 1 (hs.map w32), .buf 5 1 (X.map by8), .buf 79 1 (tbl.map w32)]) (.sl (T.length + 2) (64 * j) 64) p := by
      have h1 := Bs.obj (T := T ++ [AObj.cells 23 zh, .buf 79 1 (hs.map w32), .buf 5 1 (X.map by8), .buf 79 1 (tbl.map w32)]) (i := T.length + 2) (o := .buf 5 1 (X.map by8)) (bs := X) (by simp) rfl
      have h2 := Bs.sub h1 (l := 64 * j) (m := 64 * j + 64) (by omega) (by omega)
      rw [show 64 * j + 64 - 64 * j = 64 by omega, ← hp] at h2
      simpa [AV.sub, show 64 * j + 64 - 64 * j = 64 by omega] using h2
    refine (words_ok hbp hpl).mono ?_
    rintro v T' es ⟨rfl, rfl, rfl⟩
    (simp -dsimp +decide (disch := omega) only [va, vc, vu, vl, Tryd.ty, Tryd.en, ↓reduceIte, Nat.reduceSub, Nat.reduceAdd, Nat.reduceMul, Nat.reduceLT, Int.reduceAdd, Int.reduceSub, Int.reduceToNat, Int.cast_ofNat_Int, vi, getO_i, vt, wt])
    refine ⟨by omega, ?_⟩
    have wp := wf.p
    refine SemA.pub (T.length + 6) (o := .buf 79 1 (hs.map w32)) (by simp [List.take_of_length_le (Nat.le_of_eq hhl)]) rfl (clean32 _) ?_
    (simp -dsimp +decide only [va, vc, vu, vl, Tryd.ty, Tryd.en, ↓reduceIte, Nat.reduceSub, Nat.reduceAdd, Nat.reduceMul, Nat.reduceLT, Int.reduceAdd, Int.reduceSub, Int.reduceToNat, Int.cast_ofNat_Int, vt, wp])
    refine SemA.cut (T.length + 6) (by omega) ?_
    (simp -dsimp +decide only [va, vc, vu, vl, Tryd.ty, Tryd.en, ↓reduceIte, Nat.reduceSub, Nat.reduceAdd, Nat.reduceMul, Nat.reduceLT, Int.reduceAdd, Int.reduceSub, Int.reduceToNat, Int.cast_ofNat_Int, vt, wt])
    have htk : List.take 8 hs = hs := List.take_of_length_le (by omega)
    refine SemA.loopV (fun t : Nat => [(2, .ptr T.length 0), (3, .sl (T.length + 1) 0 8), (4, .sl (T.length + 2) 0 X.length), (5, .sl (T.length + 3) 0 64), (6, wint ((64 * j : Nat) : Int)), (7, .sl (T.length + 5) 0 64), (8, .vs ((rnds (sch p 64) (W8.of hs) t).l.map w32) 8), (9, wint (t : Int))])
      (fun _ => T ++ [.cells 23 zh, .buf 79 1 (hs.map w32), .buf 5 1 (X.map by8), .buf 79 1 (tbl.map w32), .buf 79 1 [w32 (be32 p 0 4)], .buf 79 1 ((sch p 64).map w32)]) (fun t => t ≤ 64) (fun t => 64 - t) 0 [] (by kernel_rfl) (by omega) (by rw [rnds, w8_of hhl]; (simp -dsimp +decide only [va, vc, vu, vl, Tryd.ty, Tryd.en, ↓reduceIte, Nat.reduceSub, Nat.reduceAdd, Nat.reduceMul, Nat.reduceLT, Int.reduceAdd, Int.reduceSub, Int.reduceToNat, Int.cast_ofNat_Int, htk])) rfl (by simp) ?_
    · rintro t g ht
      obtain ⟨s, es⟩ : ∃ s, s = rnds (sch p 64) (W8.of hs) t := ⟨_, rfl⟩
      have hl8 : s.l.length = 8 := rfl
      have gl := s.gl
      rw [← es]
      (simp -dsimp +decide only [va, vc, vu, vl, Tryd.ty, Tryd.en, ↓reduceIte, Nat.reduceSub, Nat.reduceAdd, Nat.reduceMul, Nat.reduceLT, Int.reduceAdd, Int.reduceSub, Int.reduceToNat, Int.cast_ofNat_Int])
      refine CondP.dec (fun h => ?_) (fun h => ?_)
      · have hne : (List.map w32 s.l ≠ []) = True := by simp [W8.l]
        have hwn : (List.map w32 (sch p 64) ≠ []) = True := by
          have : sch p 64 ≠ [] := by intro e; rw [e] at hsl; simp at hsl
          simp [this]
        have htn : (List.map w32 tbl ≠ []) = True := by simp [tbl]
        (simp -dsimp +decide (disch := omega) only [va, vc, vu, vl, Tryd.ty, Tryd.en, ↓reduceIte, Nat.reduceSub, Nat.reduceAdd, Nat.reduceMul, Nat.reduceLT, Int.reduceAdd, Int.reduceSub, Int.reduceToNat, Int.cast_ofNat_Int, vi, getO_i, vt, gl, hne])
        refine (rright_ok 6 (by omega) (by omega)).det ?_
        (simp -dsimp +decide (disch := omega) only [va, vc, vu, vl, Tryd.ty, Tryd.en, ↓reduceIte, Nat.reduceSub, Nat.reduceAdd, Nat.reduceMul, Nat.reduceLT, Int.reduceAdd, Int.reduceSub, Int.reduceToNat, Int.cast_ofNat_Int, vi, getO_i])
        refine (rright_ok 11 (by omega) (by omega)).det ?_
        (simp -dsimp +decide (disch := omega) only [va, vc, vu, vl, Tryd.ty, Tryd.en, ↓reduceIte, Nat.reduceSub, Nat.reduceAdd, Nat.reduceMul, Nat.reduceLT, Int.reduceAdd, Int.reduceSub, Int.reduceToNat, Int.cast_ofNat_Int, vi, getO_i])
        refine (rright_ok 25 (by omega) (by omega)).det ?_
        (simp -dsimp +decide (disch := omega) only [va, vc, vu, vl, Tryd.ty, Tryd.en, ↓reduceIte, Nat.reduceSub, Nat.reduceAdd, Nat.reduceMul, Nat.reduceLT, Int.reduceAdd, Int.reduceSub, Int.reduceToNat, Int.cast_ofNat_Int, vi, getO_i])
        refine SemA.draw (fun _ => true) [(0, true), (1, true), (2, true), (3, true), (4, true), (5, true), (6, true), (7, true), (8, true), (9, true), (10, true), (11, true), (12, true), (13, true), (14, true), (15, true), (16, true), (17, true), (18, true), (19, true), (20, true), (21, true), (22, true), (23, true), (24, true), (25, true), (26, true), (27, true), (28, true)] Tryd.mixed (by kernel_rfl) ?_
        (simp -dsimp +decide (disch := omega) only [va, vc, vu, vl, Tryd.ty, Tryd.en, ↓reduceIte, Nat.reduceSub, Nat.reduceAdd, Nat.reduceMul, Nat.reduceLT, Int.reduceAdd, Int.reduceSub, Int.reduceToNat, Int.cast_ofNat_Int, vi, getO_i, vt, gl, hne, hwn, htn])
        refine un_xor32 ?_
        (simp -dsimp +decide (disch := omega) only [va, vc, vu, vl, Tryd.ty, Tryd.en, ↓reduceIte, Nat.reduceSub, Nat.reduceAdd, Nat.reduceMul, Nat.reduceLT, Int.reduceAdd, Int.reduceSub, Int.reduceToNat, Int.cast_ofNat_Int, vi, getO_i, vt, gl, hne, hwn, htn])
        refine ⟨by omega, by omega, ?_⟩
        refine (rright_ok 2 (by omega) (by omega)).det ?_
        (simp -dsimp +decide (disch := omega) only [va, vc, vu, vl, Tryd.ty, Tryd.en, ↓reduceIte, Nat.reduceSub, Nat.reduceAdd, Nat.reduceMul, Nat.reduceLT, Int.reduceAdd, Int.reduceSub, Int.reduceToNat, Int.cast_ofNat_Int, vi, getO_i])
        refine (rright_ok 13 (by omega) (by omega)).det ?_
        (simp -dsimp +decide (disch := omega) only [va, vc, vu, vl, Tryd.ty, Tryd.en, ↓reduceIte, Nat.reduceSub, Nat.reduceAdd, Nat.reduceMul, Nat.reduceLT, Int.reduceAdd, Int.reduceSub, Int.reduceToNat, Int.cast_ofNat_Int, vi, getO_i])
        refine (rright_ok 22 (by omega) (by omega)).det ?_
        (simp -dsimp +decide (disch := omega) only [va, vc, vu, vl, Tryd.ty, Tryd.en, ↓reduceIte, Nat.reduceSub, Nat.reduceAdd, Nat.reduceMul, Nat.reduceLT, Int.reduceAdd, Int.reduceSub, Int.reduceToNat, Int.cast_ofNat_Int, vi, getO_i])
        refine SemA.draw (fun _ => true) [(0, true), (1, true), (2, true), (3, true), (4, true), (5, true), (6, true), (7, true), (8, true), (9, true), (10, true), (11, true), (12, true), (13, true), (14, true), (15, true), (16, true), (17, true), (18, true), (19, true), (20, true), (21, true)] Tryd.mixed (by kernel_rfl) ?_
        (simp -dsimp +decide (disch := omega) only [va, vc, vu, vl, Tryd.ty, Tryd.en, ↓reduceIte, Nat.reduceSub, Nat.reduceAdd, Nat.reduceMul, Nat.reduceLT, Int.reduceAdd, Int.reduceSub, Int.reduceToNat, Int.cast_ofNat_Int, vi, getO_i, vt, gl, hne])
        refine SemA.draw (fun _ => true) [(0, true), (1, true), (2, true), (3, true), (4, true), (5, true), (6, true), (7, true), (8, true), (9, true), (10, true), (11, true), (12, true), (13, true), (14, true), (15, true), (16, true), (17, true), (18, true), (19, true), (20, true), (21, true), (22, false), (23, true)] Tryd.mixed (by kernel_rfl) ?_
        have flat8 : ∀ x : AV, (List.replicate 8 [x]).flatten = [x, x, x, x, x, x, x, x] := fun _ => rfl
        (simp -dsimp +decide (disch := omega) only [va, vc, vu, vl, Tryd.ty, Tryd.en, ↓reduceIte, Nat.reduceSub, Nat.reduceAdd, Nat.reduceMul, Nat.reduceLT, Int.reduceAdd, Int.reduceSub, Int.reduceToNat, Int.cast_ofNat_Int, vi, getO_i, vt, gl, hne, flat8, List.set_cons_zero, List.set_cons_succ, List.length_cons, List.length_nil])
        refine ⟨t + 1, by omega, by omega, ?_⟩
        rw [rnd_cells, rnds, ← es]
        refine SeeL.pub (T.length + 6) (o := .buf 79 1 ((rnd s tbl[t]! (sch p 64)[t]!).l.map w32)) (cs := (rnd s tbl[t]! (sch p 64)[t]!).l.map w32) (by (simp -dsimp +decide only [va, vc, vu, vl, Tryd.ty, Tryd.en, ↓reduceIte, Nat.reduceSub, Nat.reduceAdd, Nat.reduceMul, Nat.reduceLT, Int.reduceAdd, Int.reduceSub, Int.reduceToNat, Int.cast_ofNat_Int])) rfl (clean32 _) ?_
        (simp -dsimp +decide only [va, vc, vu, vl, Tryd.ty, Tryd.en, ↓reduceIte, Nat.reduceSub, Nat.reduceAdd, Nat.reduceMul, Nat.reduceLT, Int.reduceAdd, Int.reduceSub, Int.reduceToNat, Int.cast_ofNat_Int, vt, wp])
        refine SeeL.cut (T.length + 6) (by omega) ?_
        (simp -dsimp +decide only [va, vc, vu, vl, Tryd.ty, Tryd.en, ↓reduceIte, Nat.reduceSub, Nat.reduceAdd, Nat.reduceMul, Nat.reduceLT, Int.reduceAdd, Int.reduceSub, Int.reduceToNat, Int.cast_ofNat_Int, vt, wt])
        refine SeeL.done ⟨rfl, ?_, rfl, by simp⟩
        (simp -dsimp +decide only [va, vc, vu, vl, Tryd.ty, Tryd.en, ↓reduceIte, Nat.reduceSub, Nat.reduceAdd, Nat.reduceMul, Nat.reduceLT, Int.reduceAdd, Int.reduceSub, Int.reduceToNat, Int.cast_ofNat_Int])
        rfl
      · have ht : t = 64 := by omega
        subst ht
        (simp -dsimp +decide only [va, vc, vu, vl, Tryd.ty, Tryd.en, ↓reduceIte, Nat.reduceSub, Nat.reduceAdd, Nat.reduceMul, Nat.reduceLT, Int.reduceAdd, Int.reduceSub, Int.reduceToNat, Int.cast_ofNat_Int])
        obtain ⟨z, hz⟩ : ∃ z, z = List.zipWith (· + ·) hs s.l := ⟨_, rfl⟩
        have hzl : z.length = 8 := by rw [hz, List.length_zipWith, hhl, hl8]; rfl
        have hzp : z = piece hs p := by rw [hz, piece, ← es]
        refine SemA.loopL (fun i : Nat => [(2, .ptr T.length 0), (3, .sl (T.length + 1) 0 8), (4, .sl (T.length + 2) 0 X.length), (5, .sl (T.length + 3) 0 64), (6, wint ((64 * j : Nat) : Int)), (8, .vs (s.l.map w32) 8), (16, wint (i : Int))])
          (fun i => T ++ [.cells 23 zh, .buf 79 1 ((z.take i ++ hs.drop i).map w32), .buf 5 1 (X.map by8), .buf 79 1 (tbl.map w32), .buf 79 1 [w32 (be32 p 0 4)], .buf 79 1 ((sch p 64).map w32)]) (fun i => i ≤ 8) (fun i => 8 - i) 0 [] (by kernel_rfl) (by omega) (by (simp -dsimp +decide only [va, vc, vu, vl, Tryd.ty, Tryd.en, ↓reduceIte, Nat.reduceSub, Nat.reduceAdd, Nat.reduceMul, Nat.reduceLT, Int.reduceAdd, Int.reduceSub, Int.reduceToNat, Int.cast_ofNat_Int])) rfl (by simp) ?_
        rintro i g hi
        (simp -dsimp +decide only [va, vc, vu, vl, Tryd.ty, Tryd.en, ↓reduceIte, Nat.reduceSub, Nat.reduceAdd, Nat.reduceMul, Nat.reduceLT, Int.reduceAdd, Int.reduceSub, Int.reduceToNat, Int.cast_ofNat_Int])
        refine CondP.dec (fun h => ?_) (fun h => ?_)
        · have hzi : z[i]! = hs[i]! + s.l[i]! := by
            rw [hz, getElem!_pos _ i (by rw [← hz]; omega), getElem!_pos hs i (by omega), getElem!_pos s.l i (by omega)]; simp
          refine SemA.draw (fun _ => true) [(0, true), (1, true), (2, true), (3, true), (4, true), (5, true), (6, true), (7, true), (8, true), (9, true), (10, true), (11, true), (12, false)] Tryd.mixed (by kernel_rfl) ?_
          (simp -dsimp +decide (disch := omega) only [va, vc, vu, vl, Tryd.ty, Tryd.en, ↓reduceIte, Nat.reduceSub, Nat.reduceAdd, Nat.reduceMul, Nat.reduceLT, Int.reduceAdd, Int.reduceSub, Int.reduceToNat, Int.cast_ofNat_Int, vi, getO_i, vt, step_get z hs i (by omega) (by omega), step_set z hs i (by omega) (by omega) _ hzi])
          have hle : (z.take i ++ hs.drop i).length = 8 := by simp; omega
          have hn1 : List.map w32 (z.take i ++ hs.drop i) ≠ [] := by
            intro e; have := congrArg List.length e; rw [List.length_map, hle] at this; simp at this
          exact ⟨⟨by omega, by omega, hn1⟩, ⟨by omega, by omega, by simp [W8.l]⟩, ⟨by omega, by omega, hn1⟩, by omega, i + 1, by omega, by omega, rfl, rfl⟩
        · have hi : i = 8 := by omega
          subst hi
          (simp -dsimp +decide (disch := omega) only [va, vc, vu, vl, Tryd.ty, Tryd.en, ↓reduceIte, Nat.reduceSub, Nat.reduceAdd, Nat.reduceMul, Nat.reduceLT, Int.reduceAdd, Int.reduceSub, Int.reduceToNat, Int.cast_ofNat_Int, vi, getO_i])
          refine ⟨j + 1, by omega, by omega, ?_⟩
          refine SeeL.cut (T.length + 4) (by omega) ?_
          (simp -dsimp +decide only [va, vc, vu, vl, Tryd.ty, Tryd.en, ↓reduceIte, Nat.reduceSub, Nat.reduceAdd, Nat.reduceMul, Nat.reduceLT, Int.reduceAdd, Int.reduceSub, Int.reduceToNat, Int.cast_ofNat_Int, vt, wt])
          have hnx := hsum_next bs j (by rw [← hX]; omega)
          rw [← hX, ← hp, ← hhs, ← hzp] at hnx
          refine SeeL.done ⟨rfl, ?_, ?_, by simp⟩
          · (simp -dsimp +decide only [va, vc, vu, vl, Tryd.ty, Tryd.en, ↓reduceIte, Nat.reduceSub, Nat.reduceAdd, Nat.reduceMul, Nat.reduceLT, Int.reduceAdd, Int.reduceSub, Int.reduceToNat, Int.cast_ofNat_Int])
            rw [show 64 * (j + 1) = 64 * j + 64 by omega]; rfl
          · rw [show 64 * (j + 1) = 64 * j + 64 by omega, hnx, List.take_of_length_le (by omega), List.drop_of_length_le (by omega), List.append_nil]; rfl
  · have hj : 64 * j = X.length := by omega
    rw [hj]
    obtain ⟨O, hO⟩ : ∃ l, l = outs (hsum bs X.length) := ⟨_, rfl⟩
    obtain ⟨hs, hhs⟩ : ∃ hs, hs = hsum bs X.length := ⟨_, rfl⟩
    have hhl : hs.length = 8 := by rw [hhs]; exact hsum_len _ _
    rw [← hhs] at hO ⊢
    have hOl : O.length = 32 := by rw [hO]; simp [outs]
    (simp -dsimp +decide only [va, vc, vu, vl, Tryd.ty, Tryd.en, ↓reduceIte, Nat.reduceSub, Nat.reduceAdd, Nat.reduceMul, Nat.reduceLT, Int.reduceAdd, Int.reduceSub, Int.reduceToNat, Int.cast_ofNat_Int])
    refine SemA.loopL (fun i : Nat => [(2, .ptr T.length 0), (3, .sl (T.length + 1) 0 8), (17, .ptr (T.length + 4) 0), (18, wint i)])
      (fun i => T ++ [.cells 23 zh, .buf 79 1 (hs.map w32), .buf 5 1 (X.map by8), .buf 79 1 (tbl.map w32), .cells 23 ((O.take i ++ (List.replicate 32 0).drop i).map by8)]) (fun i => i ≤ 32) (fun i => 32 - i) 0 [] (by kernel_rfl) (by omega) (by (simp -dsimp +decide only [va, vc, vu, vl, Tryd.ty, Tryd.en, ↓reduceIte, Nat.reduceSub, Nat.reduceAdd, Nat.reduceMul, Nat.reduceLT, Int.reduceAdd, Int.reduceSub, Int.reduceToNat, Int.cast_ofNat_Int, vt])) rfl (by simp) ?_
    rintro i g hi
    (simp -dsimp +decide only [va, vc, vu, vl, Tryd.ty, Tryd.en, ↓reduceIte, Nat.reduceSub, Nat.reduceAdd, Nat.reduceMul, Nat.reduceLT, Int.reduceAdd, Int.reduceSub, Int.reduceToNat, Int.cast_ofNat_Int])
    refine CondP.dec (fun h => ?_) (fun h => ?_)
    · have hz : O[i]! = (u32_shr hs[i / 4]! (24 - 8 * (i % 4))).toUInt8 := by
        rw [getElem!_pos O i (by omega)]; simp [hO, outs]
      have hn1 : List.map w32 hs ≠ [] := by
        intro e; have := congrArg List.length e; rw [List.length_map, hhl] at this; simp at this
      (simp -dsimp +decide (disch := omega) only [va, vc, vu, vl, Tryd.ty, Tryd.en, ↓reduceIte, Nat.reduceSub, Nat.reduceAdd, Nat.reduceMul, Nat.reduceLT, Int.reduceAdd, Int.reduceSub, Int.reduceToNat, Int.cast_ofNat_Int, vi, getO_i, vt, sh_num2 (i % 4) (by omega), step_set O (List.replicate 32 0) i (by omega) (by simp; omega) _ hz])
      exact ⟨⟨by omega, by omega, hn1⟩, by omega, ⟨by omega, by omega⟩, by simp; omega, i + 1, by omega, by omega, rfl, rfl⟩
    · have hi : i = 32 := by omega
      subst hi
      rw [show List.take 32 O ++ List.drop 32 (List.replicate 32 0) = O by rw [List.take_of_length_le (by omega)]; simp]
      have hOt : O.take 32 = O := List.take_of_length_le (by omega)
      (simp -dsimp +decide (disch := omega) only [va, vc, vu, vl, Tryd.ty, Tryd.en, ↓reduceIte, Nat.reduceSub, Nat.reduceAdd, Nat.reduceMul, Nat.reduceLT, Int.reduceAdd, Int.reduceSub, Int.reduceToNat, Int.cast_ofNat_Int, vi, getO_i, hOt, List.drop_zero])
      rw [wrA_all (by simp [hOl, zh])]
      refine ⟨by omega, ⟨by omega, by omega, by simp [hOl, zh]⟩, by simp [hOl], Vw.cut ⟨?_, rfl, rfl⟩⟩
      (simp -dsimp +decide only [va, vc, vu, vl, Tryd.ty, Tryd.en, ↓reduceIte, Nat.reduceSub, Nat.reduceAdd, Nat.reduceMul, Nat.reduceLT, Int.reduceAdd, Int.reduceSub, Int.reduceToNat, Int.cast_ofNat_Int, hOt])
      rw [hO]
/-- **BOTH SUMS ARE ONE** -/
theorem sha_eq (m : List UInt8) : sha m = outs (hsum m (txt m).length) := by
  have hd : ∀ n : UInt64, dist n = distn n.toNat := fun n => rfl
  have hn := puts_n m Sa.zero
  have e1 : ∀ (l : List UInt8) (s : Sa), (s.puts l).n = s.n + UInt64.ofInt (l.length : Int) := by
    intro l
    induction l with
    | nil => intro s; show s.n = _; rw [show UInt64.ofInt (([] : List UInt8).length : Int) = 0 from rfl, UInt64.add_zero]
    | cons x l ih => intro s; show ((s.put x).puts l).n = _; rw [ih, List.length_cons, of_succ, Sa.put_n]
  have e2 : (Sa.zero.puts m).n = UInt64.ofInt (m.length : Int) := by rw [e1, Sa.zero, UInt64.zero_add]
  have e3 : dist ((Sa.zero.puts m).n + 1) = distn (m.length + 1) := by
    have h1 := mod_succ (Sa.zero.puts m).n
    have h2 : (Sa.zero.puts m).n.toNat % 64 = m.length % 64 := by rw [hn]; show (0 + m.length) % 64 = _; omega
    unfold dist distn
    omega
  rw [sha, Sa.fin, hsum, List.take_of_length_le (Nat.le_refl _), txt, Sa.padded, e3, e2]
  simp only [Sa.puts, List.foldl_append, List.foldl_cons]
end Go.Proofs.YtmcbdlefakjpoaaDoor

set_option linter.unusedSimpArgs false
set_option linter.unusedVariables false
set_option linter.unusedSectionVars false
namespace Go.Proofs.YtmcbdlefakjpoaaDoor
open Go.E
theorem oright_ok {T : Tbl} {k : Int} : CallA Tryd.prog Tryd.G 40 [.p (.int .i64 k)] T fun v T' es => v = .p (.bool (decide (k = 1 ∨ k = 2 ∨ k = 4 ∨ k = 8))) ∧ T' = T ∧ es = [] := by
  refine CallA.enterV 9 Tryd.func40 Tryd.ntmps40 (congrArg Array.toList Tryd.results40) rfl ⟨by simp, by simp⟩ (by kernel_rfl) (by kernel_rfl) ?_
  (simp -dsimp +decide only [va, vc, vu, vl, Tryd.ty, Tryd.en, ↓reduceIte, Nat.reduceSub, Nat.reduceAdd, Nat.reduceMul, Nat.reduceLT, Int.reduceAdd, Int.reduceSub, Int.reduceToNat, Int.cast_ofNat_Int])
  by_cases h1 : k = 1
  · subst h1
    (simp -dsimp +decide only [va, vc, vu, vl, Tryd.ty, Tryd.en, ↓reduceIte, Nat.reduceSub, Nat.reduceAdd, Nat.reduceMul, Nat.reduceLT, Int.reduceAdd, Int.reduceSub, Int.reduceToNat, Int.cast_ofNat_Int])
    exact Vw.done ⟨by simp, rfl, rfl⟩
  by_cases h2 : k = 2
  · subst h2
    (simp -dsimp +decide only [va, vc, vu, vl, Tryd.ty, Tryd.en, ↓reduceIte, Nat.reduceSub, Nat.reduceAdd, Nat.reduceMul, Nat.reduceLT, Int.reduceAdd, Int.reduceSub, Int.reduceToNat, Int.cast_ofNat_Int])
    exact Vw.done ⟨by simp, rfl, rfl⟩
  by_cases h4 : k = 4
  · subst h4
    (simp -dsimp +decide only [va, vc, vu, vl, Tryd.ty, Tryd.en, ↓reduceIte, Nat.reduceSub, Nat.reduceAdd, Nat.reduceMul, Nat.reduceLT, Int.reduceAdd, Int.reduceSub, Int.reduceToNat, Int.cast_ofNat_Int])
    exact Vw.done ⟨by simp, rfl, rfl⟩
  by_cases h8 : k = 8
  · subst h8
    (simp -dsimp +decide only [va, vc, vu, vl, Tryd.ty, Tryd.en, ↓reduceIte, Nat.reduceSub, Nat.reduceAdd, Nat.reduceMul, Nat.reduceLT, Int.reduceAdd, Int.reduceSub, Int.reduceToNat, Int.cast_ofNat_Int])
    exact Vw.done ⟨by simp, rfl, rfl⟩
  (simp -dsimp +decide only [va, vc, vu, vl, Tryd.ty, Tryd.en, ↓reduceIte, Nat.reduceSub, Nat.reduceAdd, Nat.reduceMul, Nat.reduceLT, Int.reduceAdd, Int.reduceSub, Int.reduceToNat, Int.cast_ofNat_Int, eq_false h1, eq_false h2, eq_false h4, eq_false h8])
  exact Vw.done ⟨by simp [h1, h2, h4, h8], rfl, rfl⟩
/-- the number that k bytes from at on are, the lowest first -/
def le (bs : List UInt8) (at_ : Nat) : Nat → UInt64
  | 0 => 0
  | k + 1 => le bs at_ k ||| u64_shl (bs[at_ + k]!).toUInt64 (8 * k)
def okSize (n : Nat) : Prop := n = 1 ∨ n = 2 ∨ n = 4 ∨ n = 8
set_option maxRecDepth 8000 in
theorem take_ok {T : Tbl} {a : AV} {bs : List UInt8} {at_ size : Nat} (hb : Bs T a bs) (hlen : bs.length ≤ 1099511627776) (hat : at_ ≤ bs.length) (hs : okSize size) :
    CallA Tryd.prog Tryd.G 26 [a, .p (.int .i64 (at_ : Int)), .p (.int .i64 (size : Int))] T fun v T' es => v = (if at_ + size ≤ bs.length then .tu [.p (.int .u64 ((le bs at_ size).toNat : Int)), .p (.int .i64 ((at_ + size : Nat) : Int)), .p (.int .i64 0)] else .tu [.p (.int .u64 0), .p (.int .i64 0), .p (.int .i64 5)]) ∧ T' = T ∧ es = [] := by
  have hr := Sl.rules hb (by decide)
  have hs8 : size ≤ 8 := by unfold okSize at hs; omega
  refine CallA.enterV 52 Tryd.func26 Tryd.ntmps26 (congrArg Array.toList Tryd.results26) rfl ⟨by simp, by simp⟩ (by kernel_rfl) (by kernel_rfl) ?_
  (simp -dsimp +decide only [va, vc, vu, vl, Tryd.ty, Tryd.en, ↓reduceIte, Nat.reduceSub, Nat.reduceAdd, Nat.reduceMul, Nat.reduceLT, Int.reduceAdd, Int.reduceSub, Int.reduceToNat, Int.cast_ofNat_Int])
  refine oright_ok.det ?_
  have hs1 : ((size : Int) = 1 ∨ (size : Int) = 2 ∨ (size : Int) = 4 ∨ (size : Int) = 8) = True := by unfold okSize at hs; simp; omega
  have hlt : ((at_ : Int) < 0) = False := by simp
  have hgt : ((bs.length : Int) < (at_ : Int)) = False := by simp; omega
  have hsub : IntKind.i64.wrap ((bs.length : Int) - (at_ : Int)) = ((bs.length - at_ : Nat) : Int) := by rw [IntWalk.i64_in _ (by omega)]; omega
  (simp -dsimp +decide only [va, vc, vu, vl, Tryd.ty, Tryd.en, ↓reduceIte, Nat.reduceSub, Nat.reduceAdd, Nat.reduceMul, Nat.reduceLT, Int.reduceAdd, Int.reduceSub, Int.reduceToNat, Int.cast_ofNat_Int, hs1, hlt, hgt, hr, hsub])
  refine CondP.dec (fun h => ?_) (fun h => ?_)
  · have hif : (at_ + size ≤ bs.length) = False := by simp; omega
    (simp -dsimp +decide only [va, vc, vu, vl, Tryd.ty, Tryd.en, ↓reduceIte, Nat.reduceSub, Nat.reduceAdd, Nat.reduceMul, Nat.reduceLT, Int.reduceAdd, Int.reduceSub, Int.reduceToNat, Int.cast_ofNat_Int])
    exact Vw.done ⟨by rw [if_neg (by omega)], rfl, rfl⟩
  have hadd : IntKind.i64.wrap ((at_ : Int) + (size : Int)) = ((at_ + size : Nat) : Int) := by rw [IntWalk.i64_in _ (by omega)]; omega
  have hb2 := Bs.sub hb (l := at_) (m := at_ + size) (by omega) (by omega)
  have hbl : ((bs.drop at_).take (at_ + size - at_)).length = size := by simp; omega
  obtain ⟨p, hp⟩ : ∃ p, p = (bs.drop at_).take (at_ + size - at_) := ⟨_, rfl⟩
  obtain ⟨a2, ha2⟩ : ∃ a2, a2 = a.sub 1 at_ (at_ + size) := ⟨_, rfl⟩
  rw [← hp, ← ha2] at hb2
  rw [← hp] at hbl
  have hr2 := Sl.rules hb2 (by decide)
  have hld := Sl.loads hb2 (P := Tryd.prog) (t := 5) (by (simp -dsimp +decide only [va, vc, vu, vl, Tryd.ty, Tryd.en, ↓reduceIte, Nat.reduceSub, Nat.reduceAdd, Nat.reduceMul, Nat.reduceLT, Int.reduceAdd, Int.reduceSub, Int.reduceToNat, Int.cast_ofNat_Int]))
  have hpk : ∀ k, k < size → p[k]! = bs[at_ + k]! := by
    intro k hk
    rw [getElem!_pos p k (by omega), getElem!_pos bs (at_ + k) (by omega)]
    simp [hp]
  (simp -dsimp +decide (disch := omega) only [va, vc, vu, vl, Tryd.ty, Tryd.en, ↓reduceIte, Nat.reduceSub, Nat.reduceAdd, Nat.reduceMul, Nat.reduceLT, Int.reduceAdd, Int.reduceSub, Int.reduceToNat, Int.cast_ofNat_Int, vi, getO_i, hr, hadd, Int.toNat_natCast, ← ha2, hr2, hbl])
  refine ⟨by omega, by omega, ⟨by omega, by omega⟩, ?_⟩
  refine SemA.loopL (fun j : Nat => [(1, .p (.int .i64 (at_ : Int))), (2, .p (.int .i64 (size : Int))), (6, .p (.int .u64 ((le bs at_ j).toNat : Int))), (33, a2), (34, wint (size : Int)), (35, wint (j : Int))]) (fun _ => T) (fun j => j ≤ size) (fun j => size - j) 0 [] (by kernel_rfl) (by omega) (by (simp -dsimp +decide only [va, vc, vu, vl, Tryd.ty, Tryd.en, ↓reduceIte, Nat.reduceSub, Nat.reduceAdd, Nat.reduceMul, Nat.reduceLT, Int.reduceAdd, Int.reduceSub, Int.reduceToNat, Int.cast_ofNat_Int]); rfl) rfl (by simp) ?_
  rintro j g hj
  (simp -dsimp +decide only [va, vc, vu, vl, Tryd.ty, Tryd.en, ↓reduceIte, Nat.reduceSub, Nat.reduceAdd, Nat.reduceMul, Nat.reduceLT, Int.reduceAdd, Int.reduceSub, Int.reduceToNat, Int.cast_ofNat_Int])
  refine CondP.dec (fun h => ?_) (fun h => ?_)
  · (simp -dsimp +decide (disch := omega) only [va, vc, vu, vl, Tryd.ty, Tryd.en, ↓reduceIte, Nat.reduceSub, Nat.reduceAdd, Nat.reduceMul, Nat.reduceLT, Int.reduceAdd, Int.reduceSub, Int.reduceToNat, Int.cast_ofNat_Int, vi, getO_i, hr2, hld, hbl, vt, hpk j (by omega)])
    exact ⟨⟨by omega, by omega⟩, by omega, j + 1, by omega, by omega, rfl, rfl⟩
  · have hj : j = size := by omega
    subst hj
    (simp -dsimp +decide only [va, vc, vu, vl, Tryd.ty, Tryd.en, ↓reduceIte, Nat.reduceSub, Nat.reduceAdd, Nat.reduceMul, Nat.reduceLT, Int.reduceAdd, Int.reduceSub, Int.reduceToNat, Int.cast_ofNat_Int, hadd])
    refine Vw.done ⟨?_, rfl, rfl⟩
    rw [if_pos (by omega)]
/-- the upper word of a product, by halves -/
def mulhi (x y : UInt64) : UInt64 :=
  let w := (u64_shr x 32) * (y &&& UInt64.ofInt 4294967295) + u64_shr ((x &&& UInt64.ofInt 4294967295) * (y &&& UInt64.ofInt 4294967295)) 32
  u64_shr x 32 * u64_shr y 32 + u64_shr w 32 + u64_shr ((w &&& UInt64.ofInt 4294967295) + (x &&& UInt64.ofInt 4294967295) * u64_shr y 32) 32
set_option maxRecDepth 8000 in
theorem mul64_ok {T : Tbl} {x y : UInt64} : CallA Tryd.prog Tryd.G 35 [.p (.int .u64 (x.toNat : Int)), .p (.int .u64 (y.toNat : Int))] T fun v T' es => v = .tu [.p (.int .u64 ((mulhi x y).toNat : Int)), .p (.int .u64 ((x * y).toNat : Int))] ∧ T' = T ∧ es = [] := by
  refine CallA.enterV 51 Tryd.func35 Tryd.ntmps35 (congrArg Array.toList Tryd.results35) rfl ⟨by simp, by simp⟩ (by kernel_rfl) (by kernel_rfl) ?_
  (simp -dsimp +decide only [va, vc, vu, vl, Tryd.ty, Tryd.en, ↓reduceIte, Nat.reduceSub, Nat.reduceAdd, Nat.reduceMul, Nat.reduceLT, Int.reduceAdd, Int.reduceSub, Int.reduceToNat, Int.cast_ofNat_Int])
  exact Vw.done ⟨rfl, rfl, rfl⟩
end Go.Proofs.YtmcbdlefakjpoaaDoor

set_option linter.unusedSimpArgs false
set_option linter.unusedVariables false
set_option linter.unusedSectionVars false
namespace Go.E
section
variable {P : Program} {G : Nat → AV} {Γ Γ' Γ0 : Heap} {ρ ρ' ρ0 : List BI} {T T' T0 : Tbl} {w w' w0 : World} {a b : AV} {u v : Value} {K : AV → Tbl → Eff → Prop} {cs : List AV} {es E : Eff}
variable {N n m : Nat} {ro : Option Nat} {ds loc : List AV} {tmp : List (Nat × AV)} {Nk R : AKont} {X : Nat → AKont}

/-- a plan that may branch -/
inductive PT where
  | nil : PT
  | st : Nat → Bool → PT → PT
  | alt : Nat → PT → Nat → PT → PT
def PT.len : PT → Nat
  | .nil => 0
  | .st _ _ r => r.len + 1
  | .alt _ r _ _ => r.len + 1
def PT.isNil : PT → Bool
  | .nil => true
  | _ => false
def planOKT (ops : Array Oper) (cl : Nat) (o : Option Nat) : PT → Array Bool → Bool
  | .nil, listed => (Region.ready .any ops listed).isEmpty
  | .st i fl r, listed =>
    (if fl then (Region.ready .any ops listed).contains i && Region.free .any ops listed i && (cl != i && ((match ops[i]? with | none => false | some oi => pureOp oi.op) || blocks ops cl i listed))
     else Region.ready .any ops listed == [i] && (if r.isNil || some i == o then i == cl && decide (i < listed.size) else !(listed.getD cl false) && i != cl)) &&
    planOKT ops cl o r (listed.setIfInBounds i true)
  | .alt i r j s, listed => Region.ready .any ops listed == [i, j] && !(listed.getD cl false) && i != cl && j != cl && r.len == s.len && planOKT ops cl o r (listed.setIfInBounds i true) && planOKT ops cl o s (listed.setIfInBounds j true)
def planT (P : Program) (n : Nat) (base : Nat → Value) (ops : List Oper) (cl : Option Nat) (I : World → Prop) (ds : List Nat) : PT → List Value → List (Nat × Value) → World → (K : Kont) → Prop
  | .nil, loc, tmp, w, K => K ds loc tmp w
  | .st i true r, loc, tmp, w, K => planO n base ops ops[i]? loc tmp
    (fun o => floatV P (ev n base loc tmp) o.op o.type I fun v => putK n o.dst v loc tmp fun loc tmp => planT P n base ops cl I ds r loc tmp w K)
    (fun o => putK n o.dst undef loc tmp fun loc tmp => planT P n base ops cl I ds r loc tmp w K)
  | .st i false r, loc, tmp, w, K => planO n base ops ops[i]? loc tmp
    (fun o => opV P (ev n base loc tmp) o.op o.type w fun v w' => putK n o.dst v loc tmp fun loc tmp => ∃ I', (r.isNil = false → some i ≠ cl → I' w' ∧ ∀ w, I' w → I w) ∧ planT P n base ops cl I' ds r loc tmp w' K)
    (fun o => putK n o.dst undef loc tmp fun loc tmp => planT P n base ops cl I ds r loc tmp w K)
  | .alt i r j s, loc, tmp, w, K =>
    planO n base ops ops[i]? loc tmp
      (fun o => opV P (ev n base loc tmp) o.op o.type w fun v w' => putK n o.dst v loc tmp fun loc tmp => ∃ I', (I' w' ∧ ∀ w, I' w → I w) ∧ planT P n base ops cl I' ds r loc tmp w' K)
      (fun o => putK n o.dst undef loc tmp fun loc tmp => planT P n base ops cl I ds r loc tmp w K) ∧
    planO n base ops ops[j]? loc tmp
      (fun o => opV P (ev n base loc tmp) o.op o.type w fun v w' => putK n o.dst v loc tmp fun loc tmp => ∃ I', (I' w' ∧ ∀ w, I' w → I w) ∧ planT P n base ops cl I' ds s loc tmp w' K)
      (fun o => putK n o.dst undef loc tmp fun loc tmp => planT P n base ops cl I ds s loc tmp w K)
theorem stepT {Q : Exit → Act → World → Prop} {n m cl f : Nat} {base : Nat → Value} {l : List Oper} {ds : List Nat} {listed : Array Bool} {i : Nat} {I : World → Prop} {loc : List Value} {tmp : List (Nat × Value)} {w : World} {a : Act} {F : (World → Prop) → List Value → List (Nat × Value) → World → Prop} (hall : l.all (dstIn m) = true)
    (h : planO n base l l[i]? loc tmp
      (fun o => opV P (ev n base loc tmp) o.op o.type w fun v w' => putK n o.dst v loc tmp fun loc tmp => ∃ I', (I' w' ∧ ∀ w, I' w → I w) ∧ F I' loc tmp w')
      (fun o => putK n o.dst undef loc tmp fun loc tmp => F I loc tmp w)) (ha : Agree n base loc tmp a) (hs : a.tmps.size = m) (hd : a.defers = ds.map markOf) (hI : I w)
    (hF : ∀ (I' : World → Prop) loc tmp w a, F I' loc tmp w → I' w → Agree n base loc tmp a → a.tmps.size = m → a.defers = ds.map markOf → AnyI ro P l.toArray Q cl I' f (listed.setIfInBounds i true) a w) :
    wpOpIn (fz ro) 0 P l.toArray Q i (AnyI ro P l.toArray Q cl I f (listed.setIfInBounds i true)) a w := by
  cases ho : l[i]? with
  | none => simp only [ho, planO] at h
  | some o =>
    have hoi : l.toArray[i]? = some o := by simpa using ho
    have hmem : o ∈ l := List.mem_of_getElem? ho
    have hd1 : dstIn m o = true := List.all_eq_true.1 hall o hmem
    have hdst : ∀ t, o.dst = some t → t < a.tmps.size := by rw [hs]; exact dstIn_spec hd1
    unfold wpOpIn
    simp only [hoi]
    simp only [ho, planO] at h
    rw [← ha.ev] at h
    rcases grdV_wanted h with ⟨hw, h⟩ | ⟨hw, h⟩
    · rw [if_pos hw]
      refine (opV_step h).wp fun v w' hv => ?_
      obtain ⟨loc', tmp', ha', I', hI', hv'⟩ := ha.put hdst v hv
      exact (hF I' loc' tmp' w' _ hv' hI'.1 ha' (by cases o.dst <;> simp [Act.put, hs]) (by cases o.dst <;> simp [Act.put, hd])).mono hI'.2
    · rw [if_neg (by rw [hw]; simp)]
      obtain ⟨loc', tmp', ha', hv'⟩ := ha.put hdst undef h
      exact ⟨fun f _ => fz_fn f, hF I loc' tmp' w _ hv' hI ha' (by cases o.dst <;> simp [Act.put, hs]) (by cases o.dst <;> simp [Act.put, hd])⟩

theorem planT_any {Q : Exit → Act → World → Prop} {n m cl : Nat} {oc : Option Nat} {base : Nat → Value} {l : List Oper} {ds : List Nat} {K : Kont} (hsel : Region.noSelect l.toArray = true) (hdef : noDefer l.toArray = true) (hQ : ∀ c (a a' : Act) w, Q (.panic c) a w → Q (.panic c) a' w) (hall : l.all (dstIn m) = true) :
    ∀ (pl : PT) (listed : Array Bool) (I : World → Prop) (loc : List Value) (tmp : List (Nat × Value)) (w : World) (a : Act), planT P n base l oc I ds pl loc tmp w K → planOKT l.toArray cl oc pl listed = true → (listed.getD cl false = false → I w) →
      Agree n base loc tmp a → a.tmps.size = m → a.defers = ds.map markOf →
      (∀ loc tmp w a, Agree n base loc tmp a → a.tmps.size = m → a.defers = ds.map markOf → K ds loc tmp w → Q .normal a w) → AnyI ro P l.toArray Q cl I pl.len listed a w
  | .nil, listed, I, loc, tmp, w, a, h, hpl, hI, ha, hs, hd, hK => by
    simp only [planOKT, List.isEmpty_iff] at hpl
    exact ⟨hI, hpl, hK loc tmp w a ha hs hd h⟩
  | .st i fl r, listed, I, loc, tmp, w, a, h, hpl, hI, ha, hs, hd, hK => by
    rw [planOKT, Bool.and_eq_true] at hpl
    obtain ⟨hpl1, hpl2⟩ := hpl
    cases ho : l[i]? with
    | none => cases fl <;> (simp only [planT, ho, planO] at h)
    | some o =>
      have hoi : l.toArray[i]? = some o := by simpa using ho
      have hmem : o ∈ l := List.mem_of_getElem? ho
      have hd1 : dstIn m o = true := List.all_eq_true.1 hall o hmem
      have hdst : ∀ t, o.dst = some t → t < a.tmps.size := by rw [hs]; exact dstIn_spec hd1
      have hnext : ∀ (I' : World → Prop) v w', ((listed.setIfInBounds i true).getD cl false = false → I' w') → (putK n o.dst v loc tmp fun loc tmp => planT P n base l oc I' ds r loc tmp w' K) → AnyI ro P l.toArray Q cl I' r.len (listed.setIfInBounds i true) (a.put o.dst v) w' := by
        intro I' v w' hI' hv
        obtain ⟨loc', tmp', ha', hv'⟩ := ha.put hdst v hv
        exact planT_any hsel hdef hQ hall r _ I' loc' tmp' w' _ hv' hpl2 hI' ha' (by cases o.dst <;> simp [Act.put, hs]) (by cases o.dst <;> simp [Act.put, hd]) hK
      cases fl with
      | true =>
        simp only [planT, ho, planO] at h
        rw [← ha.ev] at h
        simp only [if_true, Bool.and_eq_true, List.contains_iff_mem, Bool.or_eq_true, Bool.not_eq_true', bne_iff_ne, ne_eq, hoi] at hpl1
        obtain ⟨⟨hp1, hp2⟩, hp4, hp3⟩ := hpl1
        have hnext' : ∀ v, (putK n o.dst v loc tmp fun loc tmp => planT P n base l oc I ds r loc tmp w K) → AnyI ro P l.toArray Q cl I r.len (listed.setIfInBounds i true) (a.put o.dst v) w := fun v hk =>
          hnext I v w (fun hl => hI (by rw [getD_set_ne false (Ne.symm hp4)] at hl; exact hl)) hk
        rcases hp3 with hp3 | hp3
        · have hgive : ∃ v, GivesI P l.toArray (fun _ => True) o v a ∧ putK n o.dst v loc tmp fun loc tmp => planT P n base l oc I ds r loc tmp w K := by
            rcases grdV_wanted h with ⟨hw, h⟩ | ⟨hw, h⟩
            · obtain ⟨v, hv, hk⟩ := floatV_run (floatV_pure hp3 h)
              exact ⟨v, .inl ⟨hw, hv⟩, hk⟩
            · exact ⟨undef, .inr ⟨hw, rfl⟩, h⟩
          obtain ⟨v, hg, hk⟩ := hgive
          exact AnyI_first2 [] (.inl fun _ => trivial) hp4 hoi (Region.noSelect_spec hsel) (noDefer_spec hdef) (fun c a w => hQ c _ _ w) r.len listed a w (fun j oj hj hne hun hno => Region.free_spec hoi hp2 j oj hj hne hun hno) (.inl fun _ => trivial) hp1 hg (hnext' v hk)
        · have hgive : ∃ v, GivesI P l.toArray I o v a ∧ putK n o.dst v loc tmp fun loc tmp => planT P n base l oc I ds r loc tmp w K := by
            rcases grdV_wanted h with ⟨hw, h⟩ | ⟨hw, h⟩
            · obtain ⟨v, hv, hk⟩ := floatV_run h
              exact ⟨v, .inl ⟨hw, hv⟩, hk⟩
            · exact ⟨undef, .inr ⟨hw, rfl⟩, h⟩
          obtain ⟨v, hg, hk⟩ := hgive
          simp only [blocks, Bool.and_eq_true, Bool.or_eq_true, Bool.not_eq_true', List.contains_iff_mem, List.all_eq_true] at hp3
          obtain ⟨⟨⟨hb1, hb2⟩, hb3⟩, hb4⟩ := hp3
          refine AnyI_first2 (waitsFor l.toArray i) (.inr ⟨fun _ h => h, ?_, fun j hj oj hoj => ?_⟩) hp4 hoi (Region.noSelect_spec hsel) (noDefer_spec hdef) (fun c a w => hQ c _ _ w) r.len listed a w (fun j oj hj hne hun hno => Region.free_spec hoi hp2 j oj hj hne hun hno) (.inr ⟨hb3, hb4⟩) hp1 hg (hnext' v hk)
          · rcases hb2 with h | h
            · exact .inl h
            · right
              split at h
              · assumption
              · cases h
          · have := List.all_eq_true.1 hb1 j hj
            rw [hoj] at this
            obtain ⟨k, hk, hk'⟩ := Array.any_eq_true.1 this
            simp only [Bool.and_eq_true, Bool.or_eq_true, beq_iff_eq, List.contains_iff_mem] at hk'
            exact ⟨_, Array.getElem_mem hk, hk'⟩
      | false =>
        simp only [Bool.false_eq_true, if_false, beq_iff_eq, Bool.and_eq_true] at hpl1
        obtain ⟨hp1, hp2⟩ := hpl1
        refine ⟨hI, fun e => (by rw [e] at hp1; cases hp1), fun j hj => ?_⟩
        rw [hp1, List.mem_singleton] at hj
        subst hj
        unfold wpOpIn
        simp only [hoi]
        simp only [planT, ho, planO] at h
        rw [← ha.ev] at h
        by_cases hcl : r.isNil = true ∨ some j = oc
        · have hcl' : (r.isNil || some j == oc) = true := by
            rcases hcl with h | h
            · simp [h]
            · simp [h]
          rw [hcl', if_pos rfl, Bool.and_eq_true, beq_iff_eq, decide_eq_true_eq] at hp2
          have hset : (listed.setIfInBounds j true).getD cl false = true := by
            rw [← hp2.1]; simp [hp2.2]
          have hfin : ∀ (I' : World → Prop) v w', (putK n o.dst v loc tmp fun loc tmp => planT P n base l oc I' ds r loc tmp w' K) → AnyI ro P l.toArray Q cl I r.len (listed.setIfInBounds j true) (a.put o.dst v) w' := fun I' v w' hv =>
            (hnext I' v w' (fun hf => by rw [hset] at hf; cases hf) hv).listed _ _ _ _ hset
          rcases grdV_wanted h with ⟨hw, h⟩ | ⟨hw, h⟩
          · rw [if_pos hw]
            refine (opV_step h).wp fun v w' hv => ?_
            obtain ⟨loc', tmp', ha', I', hI', hv'⟩ := ha.put hdst v hv
            exact (planT_any hsel hdef hQ hall r _ I' loc' tmp' w' _ hv' hpl2 (fun hf => by rw [hset] at hf; cases hf) ha' (by cases o.dst <;> simp [Act.put, hs]) (by cases o.dst <;> simp [Act.put, hd]) hK).listed _ _ _ _ hset
          · rw [if_neg (by rw [hw]; simp)]
            exact ⟨fun f _ => fz_fn f, hfin I _ _ h⟩
        · have hcl' : (r.isNil || some j == oc) = false := by
            rw [not_or] at hcl
            simp [hcl.1, hcl.2]
          rw [hcl'] at hp2
          simp only [Bool.false_eq_true, if_false, Bool.and_eq_true, Bool.not_eq_true', bne_iff_ne, ne_eq] at hp2
          rw [not_or] at hcl
          have hfin : ∀ v w', (putK n o.dst v loc tmp fun loc tmp => ∃ I', (r.isNil = false → some j ≠ oc → I' w' ∧ ∀ w, I' w → I w) ∧ planT P n base l oc I' ds r loc tmp w' K) → AnyI ro P l.toArray Q cl I r.len (listed.setIfInBounds j true) (a.put o.dst v) w' := by
            intro v w' hv
            obtain ⟨loc', tmp', ha', I', hI', hv'⟩ := ha.put hdst v hv
            have hi' := hI' (by simpa using hcl.1) hcl.2
            exact (planT_any hsel hdef hQ hall r _ I' loc' tmp' w' (a.put o.dst v) hv' hpl2 (fun _ => hi'.1) ha' (by cases o.dst <;> simp [Act.put, hs]) (by cases o.dst <;> simp [Act.put, hd]) hK).mono hi'.2
          rcases grdV_wanted h with ⟨hw, h⟩ | ⟨hw, h⟩
          · rw [if_pos hw]
            exact (opV_step h).wp hfin
          · rw [if_neg (by rw [hw]; simp)]
            exact ⟨fun f _ => fz_fn f, hnext I _ _ (fun _ => hI hp2.1) h⟩
  | .alt i r j s, listed, I, loc, tmp, w, a, h, hpl, hI, ha, hs, hd, hK => by
    simp only [planOKT, Bool.and_eq_true, beq_iff_eq, Bool.not_eq_true', bne_iff_ne, ne_eq] at hpl
    obtain ⟨⟨⟨⟨⟨⟨hp1, hp2⟩, hp3⟩, hp4⟩, hp5⟩, hp6⟩, hp7⟩ := hpl
    obtain ⟨h1, h2⟩ := h
    refine ⟨hI, fun e => (by rw [e] at hp1; cases hp1), fun k hk => ?_⟩
    rw [hp1] at hk
    rcases List.mem_cons.1 hk with rfl | hk
    · exact stepT hall h1 ha hs hd (hI hp2) (fun I' loc tmp w a hf hi' ha hs hd => planT_any hsel hdef hQ hall r _ I' loc tmp w a hf hp6 (fun _ => hi') ha hs hd hK)
    · rw [List.mem_singleton] at hk
      subst hk
      have := stepT hall h2 ha hs hd (hI hp2) (fun I' loc tmp w a hf hi' ha hs hd => planT_any hsel hdef hQ hall s _ I' loc tmp w a hf hp7 (fun _ => hi') ha hs hd hK)
      rw [hp5]
      exact this

def planTA (P : Program) (G : Nat → AV) (N n : Nat) (ops : List Oper) (cl : Option Nat) (keep : Nat → Bool) : List AV → PT → List AV → List (Nat × AV) → Tbl → Eff → (K : AKont) → Prop
  | ds, .nil, loc, tmp, T, E, K => K ds loc tmp T E
  | ds, .st i true r, loc, tmp, T, E, K => planOA ops ops[i]? (evA G n loc tmp)
      (fun o => rdA P (evA G n loc tmp) o.op o.type (keepT keep T) fun v => putA n o.dst v loc tmp fun loc tmp => planTA P G N n ops cl keep ds r loc tmp T E K)
      (fun o => putA n o.dst (.p undef) loc tmp fun loc tmp => planTA P G N n ops cl keep ds r loc tmp T E K)
  | ds, .st i false r, loc, tmp, T, E, K => planOA ops ops[i]? (evA G n loc tmp)
      (fun o => opA P G (evA G n loc tmp) o.op o.type T fun v T' es => putA n o.dst v (slots es loc) (slotsT es tmp) fun loc tmp => (keepOK keep es = true ∨ r.isNil = true ∨ some i = cl) ∧ planTA P G N n ops cl keep (slots es ds) r loc tmp T' (recE N es E) K)
      (fun o => putA n o.dst (.p undef) loc tmp fun loc tmp => planTA P G N n ops cl keep ds r loc tmp T E K)
  | ds, .alt i r j s, loc, tmp, T, E, K => planOA ops ops[i]? (evA G n loc tmp)
      (fun o => opA P G (evA G n loc tmp) o.op o.type T fun v T' es => putA n o.dst v (slots es loc) (slotsT es tmp) fun loc tmp => (keepOK keep es = true) ∧ planTA P G N n ops cl keep (slots es ds) r loc tmp T' (recE N es E) K)
      (fun o => putA n o.dst (.p undef) loc tmp fun loc tmp => planTA P G N n ops cl keep ds r loc tmp T E K) ∧
    planOA ops ops[j]? (evA G n loc tmp)
      (fun o => opA P G (evA G n loc tmp) o.op o.type T fun v T' es => putA n o.dst v (slots es loc) (slotsT es tmp) fun loc tmp => (keepOK keep es = true) ∧ planTA P G N n ops cl keep (slots es ds) s loc tmp T' (recE N es E) K)
      (fun o => putA n o.dst (.p undef) loc tmp fun loc tmp => planTA P G N n ops cl keep ds s loc tmp T E K)
theorem planTA_sound {n : Nat} {base : Nat → Value} {ops : List Oper} {cl : Option Nat} {keep : Nat → Bool} {K : AKont} : ∀ (pl : PT) (ds loc : List AV) (tmp : List (Nat × AV)) (dv : List Nat) (lv : List Value) (tv : List (Nat × Value)) (Γ : Heap) (ρ : List BI) (T : Tbl) (w : World) (E : Eff),
    planTA P G ρ0.length n ops cl keep ds pl loc tmp T E K → Frm G Γ0 ρ0 T0 w0 Γ ρ T w E → At Γ ρ ds loc tmp dv lv tv → planT P n base ops cl (Agr Γ ρ (keepT keep T) w) dv pl lv tv w (LK G Γ0 ρ0 T0 w0 K)
  | .nil, ds, loc, tmp, dv, lv, tv, Γ, ρ, T, w, E, h, hf, ha => ⟨Γ, ρ, T, E, ds, loc, tmp, hf, ha.ds, ha.loc, ha.tmp, h⟩
  | .st i true r, ds, loc, tmp, dv, lv, tv, Γ, ρ, T, w, E, h, hf, ha => by
    simp only [planTA, planOA] at h
    simp only [planT, planO]
    have he := evA_rel (n := n) (base := base) hf.g ha.loc ha.tmp
    cases ho : ops[i]? with
    | none => rw [ho] at h; exact h.elim
    | some o =>
      rw [ho] at h
      simp only at h ⊢
      refine grdA_sound h he (fun h => ?_) (fun h => ?_)
      · refine valV_mono (rdA_sound (hf.st.keepT keep) he h) (fun _ _ h => h) (fun s h => FloatP.mono h (fun _ h => h) ?_) ?_
        all_goals
          rintro v ⟨a, h1, h2⟩
          exact putA_sound h2 h1 ha fun loc tmp lv tv hk hat => planTA_sound r _ _ _ _ _ _ _ _ _ _ _ hk hf hat
      · exact putA_sound h (.p _) ha fun loc tmp lv tv hk hat => planTA_sound r _ _ _ _ _ _ _ _ _ _ _ hk hf hat
  | .st i false r, ds, loc, tmp, dv, lv, tv, Γ, ρ, T, w, E, h, hf, ha => by
    simp only [planTA, planOA] at h
    simp only [planT, planO]
    have he := evA_rel (n := n) (base := base) hf.g ha.loc ha.tmp
    cases ho : ops[i]? with
    | none => rw [ho] at h; exact h.elim
    | some o =>
      rw [ho] at h
      simp only at h ⊢
      refine grdA_sound h he (fun h => ?_) (fun h => ?_)
      · refine opV_mono (opA_sound hf.g hf.st he h) fun v w' h2 => ?_
        obtain ⟨Γ', ρ', T', es, a, k1, k2, k3, k4⟩ := h2
        refine putA_sound k4 k3 (ha.step k2) fun loc tmp lv tv hk hat => ⟨Agr Γ' ρ' (keepT keep T') w', fun hr hc => ?_, planTA_sound r _ _ _ _ _ _ _ _ _ _ _ hk.2 (hf.step k1 k2) hat⟩
        exact ⟨agr_self (k1.keepT keep), agr_step k2 (hk.1.resolve_right (fun h => h.elim (fun h => by rw [hr] at h; cases h) hc))⟩
      · exact putA_sound h (.p _) ha fun loc tmp lv tv hk hat => planTA_sound r _ _ _ _ _ _ _ _ _ _ _ hk hf hat
  | .alt i r j s, ds, loc, tmp, dv, lv, tv, Γ, ρ, T, w, E, h, hf, ha => by
    simp only [planTA, planOA] at h
    simp only [planT, planO]
    have he := evA_rel (n := n) (base := base) hf.g ha.loc ha.tmp
    refine ⟨?_, ?_⟩
    · have h := h.1
      cases ho : ops[i]? with
      | none => rw [ho] at h; exact h.elim
      | some o =>
        rw [ho] at h
        simp only at h ⊢
        refine grdA_sound h he (fun h => ?_) (fun h => ?_)
        · refine opV_mono (opA_sound hf.g hf.st he h) fun v w' h2 => ?_
          obtain ⟨Γ', ρ', T', es, a, k1, k2, k3, k4⟩ := h2
          refine putA_sound k4 k3 (ha.step k2) fun loc tmp lv tv hk hat => ⟨Agr Γ' ρ' (keepT keep T') w', ⟨agr_self (k1.keepT keep), agr_step k2 hk.1⟩, planTA_sound r _ _ _ _ _ _ _ _ _ _ _ hk.2 (hf.step k1 k2) hat⟩
        · exact putA_sound h (.p _) ha fun loc tmp lv tv hk hat => planTA_sound r _ _ _ _ _ _ _ _ _ _ _ hk hf hat
    · have h := h.2
      cases ho : ops[j]? with
      | none => rw [ho] at h; exact h.elim
      | some o =>
        rw [ho] at h
        simp only at h ⊢
        refine grdA_sound h he (fun h => ?_) (fun h => ?_)
        · refine opV_mono (opA_sound hf.g hf.st he h) fun v w' h2 => ?_
          obtain ⟨Γ', ρ', T', es, a, k1, k2, k3, k4⟩ := h2
          refine putA_sound k4 k3 (ha.step k2) fun loc tmp lv tv hk hat => ⟨Agr Γ' ρ' (keepT keep T') w', ⟨agr_self (k1.keepT keep), agr_step k2 hk.1⟩, planTA_sound s _ _ _ _ _ _ _ _ _ _ _ hk.2 (hf.step k1 k2) hat⟩
        · exact putA_sound h (.p _) ha fun loc tmp lv tv hk hat => planTA_sound s _ _ _ _ _ _ _ _ _ _ _ hk hf hat
theorem SemA.drawT0 {id : Nat} {ops : Array Oper} (cl : Nat) (oc : Option Nat) (keep : Nat → Bool) (pl : PT) (hm : P.follows .mixedOrders = true)
    (hok : (Region.noSelect ops && noDefer ops && ops.toList.all (dstIn m) && pl.len == ops.size && planOKT ops cl oc pl (Array.replicate ops.size false)) = true)
    (h : planTA P G N n ops.toList oc keep ds pl loc [] T E Nk) : SemA P G N ro n m (.region id ops true) ds loc tmp T E Nk X R := by
  simp only [Bool.and_eq_true, beq_iff_eq] at hok
  obtain ⟨⟨⟨⟨h1, h0⟩, h2⟩, h3⟩, h4⟩ := hok
  intro Γ0 ρ0 T0 w0 Γ ρ w dv lv tv hN hf ha
  refine SemV.cleared ?_
  intro a haa Qs hQs
  refine wpIn_mono (Q := fun e a w => ∃ dv lv tv, Fits' n m dv lv tv a ∧ mkQ (LK G Γ0 ρ0 T0 w0 Nk) (fun i => LK G Γ0 ρ0 T0 w0 (X i)) (LK G Γ0 ρ0 T0 w0 R) e dv lv tv w) ?_ (fun e a w ⟨ds, loc, tmp, hf, hq⟩ => hQs _ _ _ _ _ _ hf hq)
  have hdr : Alike { w with drawn := w.drawn + 1 } w := ⟨rfl, rfl, rfl⟩
  have hf' := hf.same hdr
  subst hN
  refine wpIn_region_any hm (AnyI.any (cl := cl) (I := Agr Γ ρ (keepT keep T) { w with drawn := w.drawn + 1 }) _ _ _ _ ?_)
  have := planT_any (P := P) (cl := cl) (oc := oc) (ro := ro) (Q := fun e a w => ∃ dv lv tv, Fits' n m dv lv tv a ∧ mkQ (LK G Γ0 ρ0 T0 w0 Nk) (fun i => LK G Γ0 ρ0 T0 w0 (X i)) (LK G Γ0 ρ0 T0 w0 R) e dv lv tv w) (l := ops.toList) (K := LK G Γ0 ρ0 T0 w0 Nk) (by simpa using h1) (by simpa using h0) (fun c a a' w ⟨ds, loc, tmp, _, hq⟩ => hq.elim) h2 pl
    (Array.replicate ops.size false) (Agr Γ ρ (keepT keep T) { w with drawn := w.drawn + 1 }) lv [] { w with drawn := w.drawn + 1 } a (planTA_sound pl ds loc [] dv lv [] Γ ρ T _ E h hf' ha.clear) (by simpa using h4) (fun _ => agr_self (hf'.st.keepT keep)) haa.clear haa.size haa.defers
    (fun loc tmp w a h1 h2 h3 hk => ⟨dv, loc, tmp, ⟨⟨_, h1⟩, h2, h3⟩, hk⟩)
  rw [h3] at this
  simpa using this
theorem RelT.all (tv : List (Nat × Value)) : RelT Γ ρ (tv.map fun p => (p.1, AV.p p.2)) tv := by
  induction tv with
  | nil => exact .nil
  | cons p r ih => exact .cons (.p _) ih
/-- **A REGION THAT DRAWS ITS ORDER, BY A PLAN THAT BRANCHES**: each branch ends in what may be seen as L and Tb -/
theorem SemA.drawT {id : Nat} {ops : Array Oper} (L : List (Nat × AV)) (Tb : Tbl) (Ei : Eff) (cl : Nat) (keep : Nat → Bool) (pl : PT) (hm : P.follows .mixedOrders = true)
    (hok : (Region.noSelect ops && noDefer ops && ops.toList.all (dstIn m) && pl.len == ops.size && planOKT ops cl (some cl) pl (Array.replicate ops.size false)) = true)
    (h : planTA P G N n ops.toList (some cl) keep ds pl loc [] T E (fun ds' loc' _ T' E' => SeeL G N n ds' loc' T' E' ds L Tb Ei)) (next : ∀ g tmp, Nk ds (mkA g L 0 n) tmp Tb Ei) : SemA P G N ro n m (.region id ops true) ds loc tmp T E Nk X R := by
  have h0 := SemA.drawT0 (ro := ro) (X := X) (R := R) (tmp := tmp) (id := id) cl (some cl) keep pl hm hok h
  intro Γ0 ρ0 T0 w0 Γ ρ w dv lv tv hN hf ha
  refine (h0 Γ0 ρ0 T0 w0 Γ ρ w dv lv tv hN hf ha).mono fun e dv lv tv w hq => ?_
  cases e with
  | normal =>
    obtain ⟨Γ1, ρ1, T1, E1, ds1, loc1, tmp1, g1, g2, g3, g4, hv⟩ := hq
    obtain ⟨Γ2, ρ2, loc2, k1, k2, k3⟩ := hv Γ0 ρ0 T0 w0 Γ1 ρ1 w dv lv hN g1 ⟨g2, g3, .nil⟩
    obtain ⟨g, rfl⟩ := k3.elim
    exact ⟨Γ2, ρ2, Tb, Ei, ds, _, _, k1, k2.ds, k2.loc, RelT.all tv, next g _⟩
  | exit i => exact hq
  | ret => exact hq
  | _ => exact hq.elim
/-- the equations -/
theorem vp :
  (∀ (P : Program) (G : Nat → AV) (N n : Nat) (ops : List Oper) (cl : Option Nat) (keep : Nat → Bool) (ds : List AV) (loc : List AV) (tmp : List (Nat × AV)) (T : Tbl) (E : Eff) (K : AKont), planTA P G N n ops cl keep ds .nil loc tmp T E K = K ds loc tmp T E) ∧
  (∀ (P : Program) (G : Nat → AV) (N n : Nat) (ops : List Oper) (cl : Option Nat) (keep : Nat → Bool) (ds : List AV) (loc : List AV) (tmp : List (Nat × AV)) (T : Tbl) (E : Eff) (K : AKont) (i : Nat) (r : PT), planTA P G N n ops cl keep ds (.st i true r) loc tmp T E K = (planOA ops ops[i]? (evA G n loc tmp)
      (fun o => rdA P (evA G n loc tmp) o.op o.type (keepT keep T) fun v => putA n o.dst v loc tmp fun loc tmp => planTA P G N n ops cl keep ds r loc tmp T E K)
      (fun o => putA n o.dst (.p undef) loc tmp fun loc tmp => planTA P G N n ops cl keep ds r loc tmp T E K))) ∧
  (∀ (P : Program) (G : Nat → AV) (N n : Nat) (ops : List Oper) (cl : Option Nat) (keep : Nat → Bool) (ds : List AV) (loc : List AV) (tmp : List (Nat × AV)) (T : Tbl) (E : Eff) (K : AKont) (i : Nat) (r : PT), planTA P G N n ops cl keep ds (.st i false r) loc tmp T E K = (planOA ops ops[i]? (evA G n loc tmp)
      (fun o => opA P G (evA G n loc tmp) o.op o.type T fun v T' es => putA n o.dst v (slots es loc) (slotsT es tmp) fun loc tmp => (keepOK keep es = true ∨ r.isNil = true ∨ some i = cl) ∧ planTA P G N n ops cl keep (slots es ds) r loc tmp T' (recE N es E) K)
      (fun o => putA n o.dst (.p undef) loc tmp fun loc tmp => planTA P G N n ops cl keep ds r loc tmp T E K))) ∧
  (∀ (P : Program) (G : Nat → AV) (N n : Nat) (ops : List Oper) (cl : Option Nat) (keep : Nat → Bool) (ds : List AV) (loc : List AV) (tmp : List (Nat × AV)) (T : Tbl) (E : Eff) (K : AKont) (i : Nat) (r : PT) (j : Nat) (s : PT), planTA P G N n ops cl keep ds (.alt i r j s) loc tmp T E K = (planOA ops ops[i]? (evA G n loc tmp)
      (fun o => opA P G (evA G n loc tmp) o.op o.type T fun v T' es => putA n o.dst v (slots es loc) (slotsT es tmp) fun loc tmp => (keepOK keep es = true) ∧ planTA P G N n ops cl keep (slots es ds) r loc tmp T' (recE N es E) K)
      (fun o => putA n o.dst (.p undef) loc tmp fun loc tmp => planTA P G N n ops cl keep ds r loc tmp T E K) ∧
    planOA ops ops[j]? (evA G n loc tmp)
      (fun o => opA P G (evA G n loc tmp) o.op o.type T fun v T' es => putA n o.dst v (slots es loc) (slotsT es tmp) fun loc tmp => (keepOK keep es = true) ∧ planTA P G N n ops cl keep (slots es ds) s loc tmp T' (recE N es E) K)
      (fun o => putA n o.dst (.p undef) loc tmp fun loc tmp => planTA P G N n ops cl keep ds s loc tmp T E K))) ∧ (PT.nil.isNil = true) ∧ (∀ i b r, (PT.st i b r).isNil = false) ∧ (∀ i r j s, (PT.alt i r j s).isNil = false) :=
  ⟨fun _ _ _ _ _ _ _ _ _ _ _ _ _ => rfl, fun _ _ _ _ _ _ _ _ _ _ _ _ _ _ _ => rfl, fun _ _ _ _ _ _ _ _ _ _ _ _ _ _ _ => rfl, fun _ _ _ _ _ _ _ _ _ _ _ _ _ _ _ _ _ => rfl, rfl, fun _ _ _ => rfl, fun _ _ _ _ => rfl⟩
end
end Go.E

set_option linter.unusedSimpArgs false
set_option linter.unusedVariables false
set_option linter.unusedSectionVars false
namespace Go.Proofs.YtmcbdlefakjpoaaDoor
open Go.E
def numS (id item : List UInt8) (n : UInt64) : UInt64 := mulhi (le (sha (id ++ item)) 0 8) (n * UInt64.ofInt 784931)
theorem bs64 {T : Tbl} {i : Nat} {l : List UInt8} (h : T[i]? = some (.buf 5 1 (l.map by8))) (hl : l.length = 64) : Bs T (.sl i 0 64) l := by
  have := Bs.obj (bs := l) h rfl
  rwa [hl] at this
theorem bs32v {T : Tbl} {l : List UInt8} (hl : l.length = 32) : Bs T (.vs (l.map by8) 32) l := by
  have := Bs.vs (T := T) l
  rwa [hl] at this
theorem clean8 (l : List UInt8) : ∀ a ∈ l.map by8, a.Clean := by
  intro a ha; obtain ⟨x, _, rfl⟩ := List.mem_map.1 ha; exact .p _
set_option maxHeartbeats 1000000 in
set_option maxRecDepth 8000 in
theorem number_ok {T : Tbl} {id item : List UInt8} {n : Nat} (hi : id.length = 32) (ht : item.length = 32) (hn : n ≤ 1099511627776) : CallA Tryd.prog Tryd.G 19 [.ag (id.map by8), .ag (item.map by8), .p (.int .i64 (n : Int))] T fun v T' es => v = .p (.int .u64 ((numS id item (UInt64.ofInt (n : Int))).toNat : Int)) ∧ T' = T ∧ es = [] := by
  refine CallA.wfs fun wf => ?_
  have wt := wf.t
  have wp := wf.p
  have hsl : (sha (id ++ item)).length = 32 := sha_len _
  refine CallA.enterV 34 Tryd.func19 Tryd.ntmps19 (congrArg Array.toList Tryd.results19) rfl ⟨by simp, by simp⟩ (by kernel_rfl) (by kernel_rfl) ?_
  (simp -dsimp +decide only [va, vc, vu, vl, Tryd.ty, Tryd.en, ↓reduceIte, Nat.reduceSub, Nat.reduceAdd, Nat.reduceMul, Nat.reduceLT, Int.reduceAdd, Int.reduceSub, Int.reduceToNat, Int.cast_ofNat_Int])
  refine SemA.drawT [(2, .p (.int .i64 (n : Int))), (7, .vp ((sha (id ++ item)).map by8) 0)] T [] 7 (fun i => decide (i < T.length + 2)) (.st 1 true (.st 3 true (.alt 0 (.alt 2 (.alt 4 (.alt 5 (.st 6 false (.st 7 false .nil)) 6 (.st 5 false (.st 7 false .nil))) 6 (.st 4 false (.st 5 false (.st 7 false .nil)))) 6 (.st 2 false (.st 4 false (.st 5 false (.st 7 false .nil))))) 6 (.st 0 false (.st 2 false (.st 4 false (.st 5 false (.st 7 false .nil)))))))) Tryd.mixed (by kernel_rfl) ?_ ?_
  · have kk : (∀ k j : Nat, decide (T.length + k < T.length + j) = decide (k < j)) ∧ (∀ j : Nat, decide (T.length < T.length + j) = decide (0 < j)) := ⟨fun k j => by simp, fun j => by simp⟩
    have t32 : ∀ l : List UInt8, l.length = 32 → List.take 32 (List.drop 0 l) = l := fun l h => by rw [List.drop_zero, List.take_of_length_le (by omega)]
    (simp -dsimp +decide (disch := omega) only [va, vc, vu, vl, Tryd.ty, Tryd.en, ↓reduceIte, Nat.reduceSub, Nat.reduceAdd, Nat.reduceMul, Nat.reduceLT, Int.reduceAdd, Int.reduceSub, Int.reduceToNat, Int.cast_ofNat_Int, vi, getO_i, vp, vt, wt, kk, t32 id hi, t32 item ht])
    have h64 : (id ++ item).length = 64 := by simp; omega
    and_intros
    all_goals first
      | omega
      | (refine (sum_ok (bs := id ++ item) (bs64 (by (simp -dsimp +decide only [va, vc, vu, vl, Tryd.ty, Tryd.en, ↓reduceIte, Nat.reduceSub, Nat.reduceAdd, Nat.reduceMul, Nat.reduceLT, Int.reduceAdd, Int.reduceSub, Int.reduceToNat, Int.cast_ofNat_Int])) h64)).det ?_
         (simp -dsimp +decide (disch := omega) only [va, vc, vu, vl, Tryd.ty, Tryd.en, ↓reduceIte, Nat.reduceSub, Nat.reduceAdd, Nat.reduceMul, Nat.reduceLT, Int.reduceAdd, Int.reduceSub, Int.reduceToNat, Int.cast_ofNat_Int, vi, getO_i, vp, vt, wt, kk]))
    all_goals
      rw [wrA_all (by simp [hsl])]
      refine ⟨by omega, ?_⟩
      first
        | (refine SeeL.pub (T.length + 3) (o := .cells 23 ((sha (id ++ item)).map by8)) ?_ rfl (clean8 _) ?_
           focus ((simp -dsimp +decide only [va, vc, vu, vl, Tryd.ty, Tryd.en, ↓reduceIte, Nat.reduceSub, Nat.reduceAdd, Nat.reduceMul, Nat.reduceLT, Int.reduceAdd, Int.reduceSub, Int.reduceToNat, Int.cast_ofNat_Int]); done))
        | (refine SeeL.pub (T.length + 2) (o := .cells 23 ((sha (id ++ item)).map by8)) ?_ rfl (clean8 _) ?_
           focus ((simp -dsimp +decide only [va, vc, vu, vl, Tryd.ty, Tryd.en, ↓reduceIte, Nat.reduceSub, Nat.reduceAdd, Nat.reduceMul, Nat.reduceLT, Int.reduceAdd, Int.reduceSub, Int.reduceToNat, Int.cast_ofNat_Int]); done))
      (simp -dsimp +decide only [va, vc, vu, vl, Tryd.ty, Tryd.en, ↓reduceIte, Nat.reduceSub, Nat.reduceAdd, Nat.reduceMul, Nat.reduceLT, Int.reduceAdd, Int.reduceSub, Int.reduceToNat, Int.cast_ofNat_Int, vt, wp])
      refine SeeL.cut T.length (Nat.le_refl _) ?_
      (simp -dsimp +decide only [va, vc, vu, vl, Tryd.ty, Tryd.en, ↓reduceIte, Nat.reduceSub, Nat.reduceAdd, Nat.reduceMul, Nat.reduceLT, Int.reduceAdd, Int.reduceSub, Int.reduceToNat, Int.cast_ofNat_Int, vt, wt, List.take_left])
      refine SeeL.done ⟨rfl, ?_, rfl, by simp⟩
      (simp -dsimp +decide only [va, vc, vu, vl, Tryd.ty, Tryd.en, ↓reduceIte, Nat.reduceSub, Nat.reduceAdd, Nat.reduceMul, Nat.reduceLT, Int.reduceAdd, Int.reduceSub, Int.reduceToNat, Int.cast_ofNat_Int])
  · intro g tmp
    (simp -dsimp +decide only [va, vc, vu, vl, Tryd.ty, Tryd.en, ↓reduceIte, Nat.reduceSub, Nat.reduceAdd, Nat.reduceMul, Nat.reduceLT, Int.reduceAdd, Int.reduceSub, Int.reduceToNat, Int.cast_ofNat_Int])
    rw [List.drop_zero, List.take_of_length_le (Nat.le_of_eq hsl)]
    refine ⟨by omega, ?_⟩
    refine (take_ok (at_ := 0) (size := 8) (bs32v hsl) (by omega) (by omega) (.inr (.inr (.inr rfl)))).det ?_
    rw [if_pos (by omega)]
    (simp -dsimp +decide only [va, vc, vu, vl, Tryd.ty, Tryd.en, ↓reduceIte, Nat.reduceSub, Nat.reduceAdd, Nat.reduceMul, Nat.reduceLT, Int.reduceAdd, Int.reduceSub, Int.reduceToNat, Int.cast_ofNat_Int])
    refine mul64_ok.det ?_
    (simp -dsimp +decide only [va, vc, vu, vl, Tryd.ty, Tryd.en, ↓reduceIte, Nat.reduceSub, Nat.reduceAdd, Nat.reduceMul, Nat.reduceLT, Int.reduceAdd, Int.reduceSub, Int.reduceToNat, Int.cast_ofNat_Int])
    exact Vw.done ⟨rfl, rfl, rfl⟩
end Go.Proofs.YtmcbdlefakjpoaaDoor

set_option linter.unusedSimpArgs false
set_option linter.unusedVariables false
set_option linter.unusedSectionVars false
namespace Go.Proofs.YtmcbdlefakjpoaaDoor
open Go.E
theorem clone_nil {T : Tbl} : CallA Tryd.prog Tryd.G 39 [.p (.slice none 0 0)] T fun v T' es => v = .p (.slice none 0 0) ∧ T' = T ∧ es = [] := by
  refine CallA.enterV 8 Tryd.func39 Tryd.ntmps39 (congrArg Array.toList Tryd.results39) rfl ⟨by simp, by simp⟩ (by kernel_rfl) (by kernel_rfl) ?_
  (simp -dsimp +decide only [va, vc, vu, vl, Tryd.ty, Tryd.en, ↓reduceIte, Nat.reduceSub, Nat.reduceAdd, Nat.reduceMul, Nat.reduceLT, Int.reduceAdd, Int.reduceSub, Int.reduceToNat, Int.cast_ofNat_Int])
  refine ⟨.bool true, fun w _ => (by kernel_rfl), ?_⟩
  (simp -dsimp +decide only [va, vc, vu, vl, Tryd.ty, Tryd.en, ↓reduceIte, Nat.reduceSub, Nat.reduceAdd, Nat.reduceMul, Nat.reduceLT, Int.reduceAdd, Int.reduceSub, Int.reduceToNat, Int.cast_ofNat_Int])
  exact Vw.done ⟨rfl, rfl, rfl⟩
def nsh (n : UInt64) : Nat → UInt64
  | 0 => n
  | t + 1 => u64_shr (nsh n t) 8
/-- k bytes of a number, the lowest first -/
def lbs (n : UInt64) (k : Nat) : List UInt8 := (List.range k).map fun i => (nsh n i).toUInt8
theorem lbs_next (n : UInt64) (k : Nat) : lbs n (k + 1) = lbs n k ++ [(nsh n k).toUInt8] := by simp [lbs, List.range_succ]
theorem lbs_len (n : UInt64) (k : Nat) : (lbs n k).length = k := by simp [lbs]
def ptb (T : Tbl) (n : UInt64) : Nat → Tbl
  | 0 => T
  | t + 1 => T ++ [.buf 5 1 [by8 n.toUInt8], .buf 5 1 ((lbs n (t + 1)).map by8)]
set_option maxRecDepth 8000 in
theorem put_nil {T : Tbl} {n : UInt64} {k : Nat} (hk : okSize k) : CallA Tryd.prog Tryd.G 23 [.p (.slice none 0 0), .p (.int .u64 (n.toNat : Int)), .p (.int .i64 (k : Int))] T fun v T' es => v = .sl (T.length + 1) 0 k ∧ T' = T ++ [.buf 5 1 [by8 n.toUInt8], .buf 5 1 ((lbs n k).map by8)] ∧ es = [] := by
  have hk8 : 0 < k ∧ k ≤ 8 := by unfold okSize at hk; omega
  have hs1 : ((k : Int) = 1 ∨ (k : Int) = 2 ∨ (k : Int) = 4 ∨ (k : Int) = 8) = True := by unfold okSize at hk; simp; omega
  refine CallA.wfs fun wf => ?_
  have wt := wf.t
  refine CallA.enterV 26 Tryd.func23 Tryd.ntmps23 (congrArg Array.toList Tryd.results23) rfl ⟨by simp, by simp⟩ (by kernel_rfl) (by kernel_rfl) ?_
  (simp -dsimp +decide only [va, vc, vu, vl, Tryd.ty, Tryd.en, ↓reduceIte, Nat.reduceSub, Nat.reduceAdd, Nat.reduceMul, Nat.reduceLT, Int.reduceAdd, Int.reduceSub, Int.reduceToNat, Int.cast_ofNat_Int])
  refine clone_nil.det ?_
  (simp -dsimp +decide only [va, vc, vu, vl, Tryd.ty, Tryd.en, ↓reduceIte, Nat.reduceSub, Nat.reduceAdd, Nat.reduceMul, Nat.reduceLT, Int.reduceAdd, Int.reduceSub, Int.reduceToNat, Int.cast_ofNat_Int])
  refine oright_ok.det ?_
  (simp -dsimp +decide only [va, vc, vu, vl, Tryd.ty, Tryd.en, ↓reduceIte, Nat.reduceSub, Nat.reduceAdd, Nat.reduceMul, Nat.reduceLT, Int.reduceAdd, Int.reduceSub, Int.reduceToNat, Int.cast_ofNat_Int, hs1])
  refine SemA.loopC (fun t : Nat => [(1, .p (.int .u64 ((nsh n t).toNat : Int))), (7, if t = 0 then .p (.slice none 0 0) else .sl (T.length + 1) 0 t), (14, wint (k : Int)), (15, wint (t : Int))]) (ptb T n) (fun t => t ≤ k) (fun t => k - t) (T.length + 2) 0 [] (by kernel_rfl) (by omega) (by omega) (by (simp -dsimp +decide only [va, vc, vu, vl, Tryd.ty, Tryd.en, ↓reduceIte, Nat.reduceSub, Nat.reduceAdd, Nat.reduceMul, Nat.reduceLT, Int.reduceAdd, Int.reduceSub, Int.reduceToNat, Int.cast_ofNat_Int, vt]); rfl) rfl (by simp) ?_
  rintro t g ht
  (simp -dsimp +decide only [va, vc, vu, vl, Tryd.ty, Tryd.en, ↓reduceIte, Nat.reduceSub, Nat.reduceAdd, Nat.reduceMul, Nat.reduceLT, Int.reduceAdd, Int.reduceSub, Int.reduceToNat, Int.cast_ofNat_Int])
  refine CondP.dec (fun h => ?_) (fun h => ?_)
  · cases t with
    | zero =>
      (simp -dsimp +decide (disch := omega) only [va, vc, vu, vl, Tryd.ty, Tryd.en, ↓reduceIte, Nat.reduceSub, Nat.reduceAdd, Nat.reduceMul, Nat.reduceLT, Int.reduceAdd, Int.reduceSub, Int.reduceToNat, Int.cast_ofNat_Int, vi, getO_i, vt, wt, ptb])
      exact ⟨1, by omega, by omega, ⟨rfl, rfl, rfl⟩, rfl⟩
    | succ t =>
      have hne : (t + 1 = 0) = False := by simp
      have hsl := lbs_len n (t + 1)
      (simp -dsimp +decide (disch := omega) only [va, vc, vu, vl, Tryd.ty, Tryd.en, ↓reduceIte, Nat.reduceSub, Nat.reduceAdd, Nat.reduceMul, Nat.reduceLT, Int.reduceAdd, Int.reduceSub, Int.reduceToNat, Int.cast_ofNat_Int, vi, getO_i, vt, wt, ptb, hsl, hne, if_false])
      refine ⟨by omega, t + 2, by omega, by omega, ⟨rfl, rfl, ?_⟩, ?_⟩
      · rw [show ((t + 1 : Nat) : Int) + 1 = ((t + 2 : Nat) : Int) by omega]
      · show _ = T ++ [AObj.buf 5 1 [by8 n.toUInt8], .buf 5 1 ((lbs n (t + 1 + 1)).map by8)]
        rw [lbs_next n (t + 1)]; rfl
  · have ht : t = k := by omega
    subst ht
    (simp -dsimp +decide only [va, vc, vu, vl, Tryd.ty, Tryd.en, ↓reduceIte, Nat.reduceSub, Nat.reduceAdd, Nat.reduceMul, Nat.reduceLT, Int.reduceAdd, Int.reduceSub, Int.reduceToNat, Int.cast_ofNat_Int])
    cases t with
    | zero => omega
    | succ t => exact Vw.done ⟨rfl, rfl, rfl⟩
end Go.Proofs.YtmcbdlefakjpoaaDoor

set_option linter.unusedSimpArgs false
set_option linter.unusedVariables false
set_option linter.unusedSectionVars false
namespace Go.Proofs.YtmcbdlefakjpoaaDoor
open Go.E
theorem size_ok {T : Tbl} {k : Int} : CallA Tryd.prog Tryd.G 41 [.p (.int .i64 k)] T fun v T' es => v = .p (.bool (decide (k = 1 ∨ k = 2 ∨ k = 4 ∨ k = 8))) ∧ T' = T ∧ es = [] := by
  by_cases h1 : k = 1
  · subst h1
    refine CallA.enterV 17 Tryd.func41 Tryd.ntmps41 (congrArg Array.toList Tryd.results41) rfl ⟨by simp, by simp⟩ (by kernel_rfl) (by kernel_rfl) ?_
    (simp -dsimp +decide only [va, vc, vu, vl, Tryd.ty, Tryd.en, ↓reduceIte, Nat.reduceSub, Nat.reduceAdd, Nat.reduceMul, Nat.reduceLT, Int.reduceAdd, Int.reduceSub, Int.reduceToNat, Int.cast_ofNat_Int])
    exact Vw.done ⟨by simp, rfl, rfl⟩
  by_cases h2 : k = 2
  · subst h2
    refine CallA.enterV 17 Tryd.func41 Tryd.ntmps41 (congrArg Array.toList Tryd.results41) rfl ⟨by simp, by simp⟩ (by kernel_rfl) (by kernel_rfl) ?_
    (simp -dsimp +decide only [va, vc, vu, vl, Tryd.ty, Tryd.en, ↓reduceIte, Nat.reduceSub, Nat.reduceAdd, Nat.reduceMul, Nat.reduceLT, Int.reduceAdd, Int.reduceSub, Int.reduceToNat, Int.cast_ofNat_Int])
    exact Vw.done ⟨by simp, rfl, rfl⟩
  by_cases h4 : k = 4
  · subst h4
    refine CallA.enterV 17 Tryd.func41 Tryd.ntmps41 (congrArg Array.toList Tryd.results41) rfl ⟨by simp, by simp⟩ (by kernel_rfl) (by kernel_rfl) ?_
    (simp -dsimp +decide only [va, vc, vu, vl, Tryd.ty, Tryd.en, ↓reduceIte, Nat.reduceSub, Nat.reduceAdd, Nat.reduceMul, Nat.reduceLT, Int.reduceAdd, Int.reduceSub, Int.reduceToNat, Int.cast_ofNat_Int])
    exact Vw.done ⟨by simp, rfl, rfl⟩
  by_cases h8 : k = 8
  · subst h8
    refine CallA.enterV 17 Tryd.func41 Tryd.ntmps41 (congrArg Array.toList Tryd.results41) rfl ⟨by simp, by simp⟩ (by kernel_rfl) (by kernel_rfl) ?_
    (simp -dsimp +decide only [va, vc, vu, vl, Tryd.ty, Tryd.en, ↓reduceIte, Nat.reduceSub, Nat.reduceAdd, Nat.reduceMul, Nat.reduceLT, Int.reduceAdd, Int.reduceSub, Int.reduceToNat, Int.cast_ofNat_Int])
    exact Vw.done ⟨by simp, rfl, rfl⟩
  refine CallA.enterV 17 Tryd.func41 Tryd.ntmps41 (congrArg Array.toList Tryd.results41) rfl ⟨by simp, by simp⟩ (by kernel_rfl) (by kernel_rfl) ?_
  (simp -dsimp +decide only [va, vc, vu, vl, Tryd.ty, Tryd.en, ↓reduceIte, Nat.reduceSub, Nat.reduceAdd, Nat.reduceMul, Nat.reduceLT, Int.reduceAdd, Int.reduceSub, Int.reduceToNat, Int.cast_ofNat_Int])
  (simp -dsimp +decide only [va, vc, vu, vl, Tryd.ty, Tryd.en, ↓reduceIte, Nat.reduceSub, Nat.reduceAdd, Nat.reduceMul, Nat.reduceLT, Int.reduceAdd, Int.reduceSub, Int.reduceToNat, Int.cast_ofNat_Int, eq_false h1, eq_false h2, eq_false h4, eq_false h8])
  exact Vw.done ⟨by simp [h1, h2, h4, h8], rfl, rfl⟩
/-- the number that k bytes from at on are, from the last one on -/
def hor (bs : List UInt8) (at_ k : Nat) : Nat → UInt64
  | 0 => 0
  | j + 1 => 256 * hor bs at_ k j + (bs[at_ + (k - 1 - j)]!).toUInt64
set_option maxRecDepth 8000 in
theorem rtake_ok {T : Tbl} {a : AV} {bs : List UInt8} {at_ size : Nat} (hb : Bs T a bs) (hlen : bs.length ≤ 1099511627776) (hat : at_ ≤ bs.length) (hs : okSize size) :
    CallA Tryd.prog Tryd.G 28 [a, .p (.int .i64 (at_ : Int)), .p (.int .i64 (size : Int))] T fun v T' es => v = (if at_ + size ≤ bs.length then .tu [.p (.int .u64 ((hor bs at_ size size).toNat : Int)), .p (.int .i64 ((at_ + size : Nat) : Int)), .p (.int .i64 0)] else .tu [.p (.int .u64 0), .p (.int .i64 0), .p (.int .i64 5)]) ∧ T' = T ∧ es = [] := by
  have hr := Sl.rules hb (by decide)
  have hld := Sl.loads hb (P := Tryd.prog) (t := 5) (by (simp -dsimp +decide only [va, vc, vu, vl, Tryd.ty, Tryd.en, ↓reduceIte, Nat.reduceSub, Nat.reduceAdd, Nat.reduceMul, Nat.reduceLT, Int.reduceAdd, Int.reduceSub, Int.reduceToNat, Int.cast_ofNat_Int]))
  have hs8 : 0 < size ∧ size ≤ 8 := by unfold okSize at hs; omega
  have hs1 : ((size : Int) = 1 ∨ (size : Int) = 2 ∨ (size : Int) = 4 ∨ (size : Int) = 8) = True := by unfold okSize at hs; simp; omega
  have hlt : ((at_ : Int) < 0) = False := by simp
  have hgt : ((bs.length : Int) < (at_ : Int)) = False := by simp; omega
  have hsub : IntKind.i64.wrap ((bs.length : Int) - (at_ : Int)) = ((bs.length - at_ : Nat) : Int) := by rw [IntWalk.i64_in _ (by omega)]; omega
  refine CallA.enterV 50 Tryd.func28 Tryd.ntmps28 (congrArg Array.toList Tryd.results28) rfl ⟨by simp, by simp⟩ (by kernel_rfl) (by kernel_rfl) ?_
  (simp -dsimp +decide only [va, vc, vu, vl, Tryd.ty, Tryd.en, ↓reduceIte, Nat.reduceSub, Nat.reduceAdd, Nat.reduceMul, Nat.reduceLT, Int.reduceAdd, Int.reduceSub, Int.reduceToNat, Int.cast_ofNat_Int])
  refine size_ok.det ?_
  (simp -dsimp +decide only [va, vc, vu, vl, Tryd.ty, Tryd.en, ↓reduceIte, Nat.reduceSub, Nat.reduceAdd, Nat.reduceMul, Nat.reduceLT, Int.reduceAdd, Int.reduceSub, Int.reduceToNat, Int.cast_ofNat_Int, hs1, hlt, hgt, hr, hsub])
  refine CondP.dec (fun h => ?_) (fun h => ?_)
  · (simp -dsimp +decide only [va, vc, vu, vl, Tryd.ty, Tryd.en, ↓reduceIte, Nat.reduceSub, Nat.reduceAdd, Nat.reduceMul, Nat.reduceLT, Int.reduceAdd, Int.reduceSub, Int.reduceToNat, Int.cast_ofNat_Int])
    exact Vw.done ⟨by rw [if_neg (by omega)], rfl, rfl⟩
  have hadd : IntKind.i64.wrap ((at_ : Int) + (size : Int)) = ((at_ + size : Nat) : Int) := by rw [IntWalk.i64_in _ (by omega)]; omega
  (simp -dsimp +decide (disch := omega) only [va, vc, vu, vl, Tryd.ty, Tryd.en, ↓reduceIte, Nat.reduceSub, Nat.reduceAdd, Nat.reduceMul, Nat.reduceLT, Int.reduceAdd, Int.reduceSub, Int.reduceToNat, Int.cast_ofNat_Int, vi, getO_i, hr, hadd])
  refine SemA.loopL (fun j : Nat => [(0, a), (1, .p (.int .i64 (at_ : Int))), (2, .p (.int .i64 (size : Int))), (9, .p (.int .u64 ((hor bs at_ size j).toNat : Int))), (10, wint ((size : Int) - 1 - (j : Int)))]) (fun _ => T) (fun j => j ≤ size) (fun j => size - j) 0 [] (by kernel_rfl) (by omega) (by (simp -dsimp +decide only [va, vc, vu, vl, Tryd.ty, Tryd.en, ↓reduceIte, Nat.reduceSub, Nat.reduceAdd, Nat.reduceMul, Nat.reduceLT, Int.reduceAdd, Int.reduceSub, Int.reduceToNat, Int.cast_ofNat_Int]); simp; rfl) rfl (by simp) ?_
  rintro j g hj
  (simp -dsimp +decide only [va, vc, vu, vl, Tryd.ty, Tryd.en, ↓reduceIte, Nat.reduceSub, Nat.reduceAdd, Nat.reduceMul, Nat.reduceLT, Int.reduceAdd, Int.reduceSub, Int.reduceToNat, Int.cast_ofNat_Int])
  refine CondP.dec (fun h => ?_) (fun h => ?_)
  · have e1 : IntKind.i64.wrap ((at_ : Int) + ((size : Int) - 1 - (j : Int))) = ((at_ + (size - 1 - j) : Nat) : Int) := by rw [IntWalk.i64_in _ (by omega)]; omega
    have e2 : IntKind.i64.wrap ((size : Int) - 1 - (j : Int) - 1) = (size : Int) - 1 - ((j + 1 : Nat) : Int) := by rw [IntWalk.i64_in _ (by omega)]; omega
    (simp -dsimp +decide (disch := omega) only [va, vc, vu, vl, Tryd.ty, Tryd.en, ↓reduceIte, Nat.reduceSub, Nat.reduceAdd, Nat.reduceMul, Nat.reduceLT, Int.reduceAdd, Int.reduceSub, Int.reduceToNat, Int.cast_ofNat_Int, vi, getO_i, hr, hld, e1, e2, Int.toNat_natCast])
    exact ⟨⟨by omega, by omega⟩, j + 1, by omega, by omega, rfl, rfl⟩
  · have hj : j = size := by omega
    subst hj
    (simp -dsimp +decide only [va, vc, vu, vl, Tryd.ty, Tryd.en, ↓reduceIte, Nat.reduceSub, Nat.reduceAdd, Nat.reduceMul, Nat.reduceLT, Int.reduceAdd, Int.reduceSub, Int.reduceToNat, Int.cast_ofNat_Int, hadd])
    refine Vw.done ⟨?_, rfl, rfl⟩
    rw [if_pos (by omega)]
theorem le_nat (bs : List UInt8) (a : Nat) : ∀ k, k ≤ 8 → (le bs a k).toNat < 2 ^ (8 * k) ∧ (k < 8 → (le bs a (k + 1)).toNat = (le bs a k).toNat + (bs[a + k]!).toNat * 2 ^ (8 * k)) := by
  intro k
  induction k with
  | zero =>
    intro _
    refine ⟨by simp [le], fun _ => ?_⟩
    simp [le, u64_shl]
  | succ k ih =>
    intro hk
    obtain ⟨h1, h2⟩ := ih (by omega)
    have hb : (bs[a + k]!).toNat < 256 := UInt8.toNat_lt _
    have e := h2 (by omega)
    have hlt : (le bs a (k + 1)).toNat < 2 ^ (8 * (k + 1)) := by
      rw [e, show 8 * (k + 1) = 8 * k + 8 by omega, Nat.pow_add]
      have : (bs[a + k]!).toNat * 2 ^ (8 * k) ≤ 255 * 2 ^ (8 * k) := Nat.mul_le_mul_right _ (by omega)
      omega
    refine ⟨hlt, fun hk8 => ?_⟩
    have hb2 : (bs[a + (k + 1)]!).toNat < 256 := UInt8.toNat_lt _
    rw [le, UInt64.toNat_or]
    have hsh : (u64_shl (bs[a + (k + 1)]!).toUInt64 (8 * (k + 1))).toNat = (bs[a + (k + 1)]!).toNat <<< (8 * (k + 1)) := by
      have hp : (2 : Nat) ^ (8 * (k + 1)) ≤ 2 ^ 56 := Nat.pow_le_pow_right (by omega) (by omega)
      have hm : (bs[a + (k + 1)]!).toNat * 2 ^ (8 * (k + 1)) ≤ 255 * 2 ^ 56 := Nat.mul_le_mul (by omega) hp
      rw [u64_shl, if_pos (by omega), UInt64.toNat_shiftLeft, UInt64.toNat_ofNat', Nat.mod_eq_of_lt (a := 8 * (k + 1)) (b := 2 ^ 64) (by omega), Nat.mod_eq_of_lt (a := 8 * (k + 1)) (b := 64) (by omega), UInt8.toNat_toUInt64, Nat.shiftLeft_eq]
      exact Nat.mod_eq_of_lt (by omega)
    rw [hsh, Nat.or_comm, ← Nat.shiftLeft_add_eq_or_of_lt hlt, Nat.shiftLeft_eq]
    omega
theorem hor_nat (bs : List UInt8) (a k : Nat) (hk : k ≤ 8) : ∀ j, j ≤ k → (hor bs a k j).toNat * 2 ^ (8 * (k - j)) + (le bs a (k - j)).toNat = (le bs a k).toNat := by
  intro j
  induction j with
  | zero => intro _; simp [hor]
  | succ j ih =>
    intro hj
    have h0 := ih (by omega)
    obtain ⟨hl, h2⟩ := le_nat bs a (k - (j + 1)) (by omega)
    have h2 := h2 (by omega)
    rw [show k - (j + 1) + 1 = k - j by omega] at h2
    have hb : (bs[a + (k - (j + 1))]!).toNat < 256 := UInt8.toNat_lt _
    have hkk := (le_nat bs a k hk).1
    have hpow : (2 : Nat) ^ (8 * (k - j)) = 2 ^ (8 * (k - (j + 1))) * 256 := by rw [show 8 * (k - j) = 8 * (k - (j + 1)) + 8 by omega, Nat.pow_add]
    have hh : (hor bs a k j).toNat < 2 ^ (8 * j) := by
      rcases Nat.lt_or_ge (hor bs a k j).toNat (2 ^ (8 * j)) with h | h
      · exact h
      · exfalso
        have h3 : 2 ^ (8 * j) * 2 ^ (8 * (k - j)) ≤ (hor bs a k j).toNat * 2 ^ (8 * (k - j)) := Nat.mul_le_mul_right _ h
        rw [← Nat.pow_add, show 8 * j + 8 * (k - j) = 8 * k by omega] at h3
        omega
    have hj56 : (2 : Nat) ^ (8 * j) ≤ 2 ^ 56 := Nat.pow_le_pow_right (by omega) (by omega)
    have e : (hor bs a k (j + 1)).toNat = 256 * (hor bs a k j).toNat + (bs[a + (k - (j + 1))]!).toNat := by
      rw [hor, show k - 1 - j = k - (j + 1) by omega, UInt64.toNat_add, UInt64.toNat_mul, UInt8.toNat_toUInt64, show (256 : UInt64).toNat = 256 from rfl]
      omega
    rw [e, ← h0, h2, hpow, Nat.add_mul]
    generalize (2 : Nat) ^ (8 * (k - (j + 1))) = q
    generalize (hor bs a k j).toNat = x
    rw [show 256 * x * q = x * (q * 256) by rw [Nat.mul_comm 256, Nat.mul_assoc, Nat.mul_comm 256]]
    omega
theorem hor_eq (bs : List UInt8) (a k : Nat) (hk : k ≤ 8) : hor bs a k k = le bs a k := by
  have := hor_nat bs a k hk k (Nat.le_refl _)
  apply UInt64.toNat_inj.1
  simpa [le] using this
end Go.Proofs.YtmcbdlefakjpoaaDoor

set_option linter.unusedSimpArgs false
set_option linter.unusedVariables false
set_option linter.unusedSectionVars false
namespace Go.Proofs.YtmcbdlefakjpoaaDoor
open Go.E
theorem rsum_ok' {T : Tbl} {a : AV} {bs : List UInt8} (hb : Bs T a bs) (hlen : bs.length ≤ 1099511627776) : CallA Tryd.prog Tryd.G 38 [a] T fun v T' es => v = .ag ((sha bs).map by8) ∧ T' = T ∧ es = [] := by
  rw [sha_eq]
  exact rsum_ok hb hlen
def rnumS (id item : List UInt8) (n : UInt64) : UInt64 :=
  let h := le (sha (id ++ item)) 0 8
  let f := n * UInt64.ofInt 784931
  u64_shr (u64_shr h 32 * f + u64_shr ((h &&& UInt64.ofInt 4294967295) * f) 32) 32
set_option maxHeartbeats 1000000 in
set_option maxRecDepth 8000 in
theorem rnumber_ok {T : Tbl} {id item : List UInt8} {n : Nat} (hi : id.length = 32) (ht : item.length = 32) (hn : n ≤ 1099511627776) : CallA Tryd.prog Tryd.G 21 [.ag (id.map by8), .ag (item.map by8), .p (.int .i64 (n : Int))] T fun v T' es => v = .p (.int .u64 ((rnumS id item (UInt64.ofInt (n : Int))).toNat : Int)) ∧ T' = T ∧ es = [] := by
  refine CallA.wfs fun wf => ?_
  have wt := wf.t
  have wp := wf.p
  have hsl : (sha (id ++ item)).length = 32 := sha_len _
  refine CallA.enterV 40 Tryd.func21 Tryd.ntmps21 (congrArg Array.toList Tryd.results21) rfl ⟨by simp, by simp⟩ (by kernel_rfl) (by kernel_rfl) ?_
  (simp -dsimp +decide only [va, vc, vu, vl, Tryd.ty, Tryd.en, ↓reduceIte, Nat.reduceSub, Nat.reduceAdd, Nat.reduceMul, Nat.reduceLT, Int.reduceAdd, Int.reduceSub, Int.reduceToNat, Int.cast_ofNat_Int])
  refine SemA.drawT [(2, .p (.int .i64 (n : Int))), (7, .vp ((sha (id ++ item)).map by8) 0)] T [] 7 (fun i => decide (i < T.length + 2)) (.st 1 true (.st 3 true (.alt 0 (.alt 2 (.alt 4 (.alt 5 (.st 6 false (.st 7 false .nil)) 6 (.st 5 false (.st 7 false .nil))) 6 (.st 4 false (.st 5 false (.st 7 false .nil)))) 6 (.st 2 false (.st 4 false (.st 5 false (.st 7 false .nil))))) 6 (.st 0 false (.st 2 false (.st 4 false (.st 5 false (.st 7 false .nil)))))))) Tryd.mixed (by kernel_rfl) ?_ ?_
  · have kk : (∀ k j : Nat, decide (T.length + k < T.length + j) = decide (k < j)) ∧ (∀ j : Nat, decide (T.length < T.length + j) = decide (0 < j)) := ⟨fun k j => by simp, fun j => by simp⟩
    have t32 : ∀ l : List UInt8, l.length = 32 → List.take 32 (List.drop 0 l) = l := fun l h => by rw [List.drop_zero, List.take_of_length_le (by omega)]
    (simp -dsimp +decide (disch := omega) only [va, vc, vu, vl, Tryd.ty, Tryd.en, ↓reduceIte, Nat.reduceSub, Nat.reduceAdd, Nat.reduceMul, Nat.reduceLT, Int.reduceAdd, Int.reduceSub, Int.reduceToNat, Int.cast_ofNat_Int, vi, getO_i, vp, vt, wt, kk, t32 id hi, t32 item ht])
    have h64 : (id ++ item).length = 64 := by simp; omega
    and_intros
    all_goals first
      | omega
      | (refine (rsum_ok' (bs := id ++ item) (bs64 (by (simp -dsimp +decide only [va, vc, vu, vl, Tryd.ty, Tryd.en, ↓reduceIte, Nat.reduceSub, Nat.reduceAdd, Nat.reduceMul, Nat.reduceLT, Int.reduceAdd, Int.reduceSub, Int.reduceToNat, Int.cast_ofNat_Int])) h64) (by omega)).det ?_
         (simp -dsimp +decide (disch := omega) only [va, vc, vu, vl, Tryd.ty, Tryd.en, ↓reduceIte, Nat.reduceSub, Nat.reduceAdd, Nat.reduceMul, Nat.reduceLT, Int.reduceAdd, Int.reduceSub, Int.reduceToNat, Int.cast_ofNat_Int, vi, getO_i, vp, vt, wt, kk]))
    all_goals
      rw [wrA_all (by simp [hsl])]
      refine ⟨by omega, ?_⟩
      first
        | (refine SeeL.pub (T.length + 3) (o := .cells 23 ((sha (id ++ item)).map by8)) ?_ rfl (clean8 _) ?_
           focus ((simp -dsimp +decide only [va, vc, vu, vl, Tryd.ty, Tryd.en, ↓reduceIte, Nat.reduceSub, Nat.reduceAdd, Nat.reduceMul, Nat.reduceLT, Int.reduceAdd, Int.reduceSub, Int.reduceToNat, Int.cast_ofNat_Int]); done))
        | (refine SeeL.pub (T.length + 2) (o := .cells 23 ((sha (id ++ item)).map by8)) ?_ rfl (clean8 _) ?_
           focus ((simp -dsimp +decide only [va, vc, vu, vl, Tryd.ty, Tryd.en, ↓reduceIte, Nat.reduceSub, Nat.reduceAdd, Nat.reduceMul, Nat.reduceLT, Int.reduceAdd, Int.reduceSub, Int.reduceToNat, Int.cast_ofNat_Int]); done))
      (simp -dsimp +decide only [va, vc, vu, vl, Tryd.ty, Tryd.en, ↓reduceIte, Nat.reduceSub, Nat.reduceAdd, Nat.reduceMul, Nat.reduceLT, Int.reduceAdd, Int.reduceSub, Int.reduceToNat, Int.cast_ofNat_Int, vt, wp])
      refine SeeL.cut T.length (Nat.le_refl _) ?_
      (simp -dsimp +decide only [va, vc, vu, vl, Tryd.ty, Tryd.en, ↓reduceIte, Nat.reduceSub, Nat.reduceAdd, Nat.reduceMul, Nat.reduceLT, Int.reduceAdd, Int.reduceSub, Int.reduceToNat, Int.cast_ofNat_Int, vt, wt, List.take_left])
      refine SeeL.done ⟨rfl, ?_, rfl, by simp⟩
      (simp -dsimp +decide only [va, vc, vu, vl, Tryd.ty, Tryd.en, ↓reduceIte, Nat.reduceSub, Nat.reduceAdd, Nat.reduceMul, Nat.reduceLT, Int.reduceAdd, Int.reduceSub, Int.reduceToNat, Int.cast_ofNat_Int])
  · intro g tmp
    (simp -dsimp +decide only [va, vc, vu, vl, Tryd.ty, Tryd.en, ↓reduceIte, Nat.reduceSub, Nat.reduceAdd, Nat.reduceMul, Nat.reduceLT, Int.reduceAdd, Int.reduceSub, Int.reduceToNat, Int.cast_ofNat_Int])
    rw [List.drop_zero, List.take_of_length_le (Nat.le_of_eq hsl)]
    refine ⟨by omega, ?_⟩
    refine (rtake_ok (at_ := 0) (size := 8) (bs32v hsl) (by omega) (by omega) (.inr (.inr (.inr rfl)))).det ?_
    rw [if_pos (by omega), hor_eq _ _ _ (by omega)]
    (simp -dsimp +decide only [va, vc, vu, vl, Tryd.ty, Tryd.en, ↓reduceIte, Nat.reduceSub, Nat.reduceAdd, Nat.reduceMul, Nat.reduceLT, Int.reduceAdd, Int.reduceSub, Int.reduceToNat, Int.cast_ofNat_Int])
    exact Vw.done ⟨rfl, rfl, rfl⟩
end Go.Proofs.YtmcbdlefakjpoaaDoor

set_option linter.unusedSimpArgs false
set_option linter.unusedVariables false
set_option linter.unusedSectionVars false
namespace Go.Proofs.YtmcbdlefakjpoaaDoor
open Go.E
theorem shr32 (x : UInt64) : (u64_shr x 32).toNat = x.toNat / 4294967296 := by
  rw [u64_shr, if_pos (by omega), UInt64.toNat_shiftRight]
  show x.toNat >>> 32 = _
  rw [Nat.shiftRight_eq_div_pow]
theorem and32 (x : UInt64) : (x &&& UInt64.ofInt 4294967295).toNat = x.toNat % 4294967296 := by
  rw [UInt64.toNat_and]
  show x.toNat &&& (2 ^ 32 - 1) = _
  rw [Nat.and_two_pow_sub_one_eq_mod]
theorem num_eq (h f : UInt64) (hf : f.toNat < 4294967296) : mulhi h f = u64_shr (u64_shr h 32 * f + u64_shr ((h &&& UInt64.ofInt 4294967295) * f) 32) 32 := by
  have hf0 : u64_shr f 32 = 0 := by apply UInt64.toNat_inj.1; rw [shr32]; simp; omega
  have hf1 : f &&& UInt64.ofInt 4294967295 = f := by apply UInt64.toNat_inj.1; rw [and32]; omega
  rw [mulhi, hf0, hf1]
  simp only [UInt64.mul_zero, UInt64.zero_add, UInt64.add_zero]
  have hz : ∀ x : UInt64, u64_shr (x &&& UInt64.ofInt 4294967295) 32 = 0 := by
    intro x; apply UInt64.toNat_inj.1; rw [shr32, and32]; simp
  rw [hz, UInt64.add_zero]
theorem numS_eq (id item : List UInt8) (n : Nat) (hn : n ≤ 4096) : numS id item (UInt64.ofInt (n : Int)) = rnumS id item (UInt64.ofInt (n : Int)) := by
  have hf : (UInt64.ofInt (n : Int) * UInt64.ofInt 784931).toNat < 4294967296 := by
    rw [UInt64.toNat_mul, show (UInt64.ofInt 784931).toNat = 784931 from rfl]
    have : (UInt64.ofInt (n : Int)).toNat = n := by
      rw [UInt64.ofInt]; simp; omega
    rw [this, Nat.mod_eq_of_lt (by omega)]; omega
  rw [numS, rnumS, num_eq _ _ hf]
end Go.Proofs.YtmcbdlefakjpoaaDoor

set_option linter.unusedSimpArgs false
set_option linter.unusedVariables false
set_option linter.unusedSectionVars false
namespace Go.Proofs.YtmcbdlefakjpoaaDoor
open Go.E
theorem n256 : (∀ a : Nat, (a : Int).tmod 256 = ((a % 256 : Nat) : Int)) ∧ (∀ a : Nat, (a : Int).tdiv 256 = ((a / 256 : Nat) : Int)) ∧ (∀ x : UInt64, x.toNat / 256 = (u64_shr x 8).toNat) ∧ (∀ x : UInt64, UInt8.ofInt ((x.toNat % 256 : Nat) : Int) = x.toUInt8) := by
  refine ⟨fun _ => rfl, fun _ => rfl, fun x => ?_, fun x => ?_⟩
  · rw [u64_shr, if_pos (by omega), UInt64.toNat_shiftRight]
    show _ = x.toNat >>> 8
    rw [Nat.shiftRight_eq_div_pow]
  · rw [← Go.E.u8_of_u64 x, ← UInt8.toNat_inj, UInt8.ofInt, UInt8.ofInt]
    simp
set_option maxRecDepth 8000 in
theorem low_ok {T : Tbl} {n : UInt64} {k : Nat} (hk : okSize k) : CallA Tryd.prog Tryd.G 42 [.p (.int .u64 (n.toNat : Int)), .p (.int .i64 (k : Int))] T fun v T' es => v = .sl (T.length + 1) 0 k ∧ T' = T ++ [.buf 5 1 [by8 n.toUInt8], .buf 5 1 ((lbs n k).map by8)] ∧ es = [] := by
  have hk8 : 0 < k ∧ k ≤ 8 := by unfold okSize at hk; omega
  refine CallA.wfs fun wf => ?_
  have wt := wf.t
  refine CallA.enterV 21 Tryd.func42 Tryd.ntmps42 (congrArg Array.toList Tryd.results42) rfl ⟨by simp, by simp⟩ (by kernel_rfl) (by kernel_rfl) ?_
  (simp -dsimp +decide only [va, vc, vu, vl, Tryd.ty, Tryd.en, ↓reduceIte, Nat.reduceSub, Nat.reduceAdd, Nat.reduceMul, Nat.reduceLT, Int.reduceAdd, Int.reduceSub, Int.reduceToNat, Int.cast_ofNat_Int])
  refine SemA.loopC (fun t : Nat => [(0, .p (.int .u64 ((nsh n t).toNat : Int))), (1, wint (k : Int)), (5, if t = 0 then .p (.slice none 0 0) else .sl (T.length + 1) 0 t), (6, wint (t : Int))]) (ptb T n) (fun t => t ≤ k) (fun t => k - t) (T.length + 2) 0 [] (by kernel_rfl) (by omega) (by omega) (by (simp -dsimp +decide only [va, vc, vu, vl, Tryd.ty, Tryd.en, ↓reduceIte, Nat.reduceSub, Nat.reduceAdd, Nat.reduceMul, Nat.reduceLT, Int.reduceAdd, Int.reduceSub, Int.reduceToNat, Int.cast_ofNat_Int, vt]); rfl) rfl (by simp) ?_
  rintro t g ht
  (simp -dsimp +decide only [va, vc, vu, vl, Tryd.ty, Tryd.en, ↓reduceIte, Nat.reduceSub, Nat.reduceAdd, Nat.reduceMul, Nat.reduceLT, Int.reduceAdd, Int.reduceSub, Int.reduceToNat, Int.cast_ofNat_Int])
  refine CondP.dec (fun h => ?_) (fun h => ?_)
  · cases t with
    | zero =>
      (simp -dsimp +decide (disch := omega) only [va, vc, vu, vl, Tryd.ty, Tryd.en, ↓reduceIte, Nat.reduceSub, Nat.reduceAdd, Nat.reduceMul, Nat.reduceLT, Int.reduceAdd, Int.reduceSub, Int.reduceToNat, Int.cast_ofNat_Int, vi, getO_i, vt, wt, ptb, n256])
      exact ⟨1, by omega, by omega, ⟨rfl, rfl, rfl⟩, rfl⟩
    | succ t =>
      have hne : (t + 1 = 0) = False := by simp
      have hsl := lbs_len n (t + 1)
      (simp -dsimp +decide (disch := omega) only [va, vc, vu, vl, Tryd.ty, Tryd.en, ↓reduceIte, Nat.reduceSub, Nat.reduceAdd, Nat.reduceMul, Nat.reduceLT, Int.reduceAdd, Int.reduceSub, Int.reduceToNat, Int.cast_ofNat_Int, vi, getO_i, vt, wt, ptb, hsl, hne, if_false, n256])
      refine ⟨by omega, t + 2, by omega, by omega, ⟨rfl, rfl, ?_⟩, ?_⟩
      · rw [show ((t + 1 : Nat) : Int) + 1 = ((t + 2 : Nat) : Int) by omega]
      · show _ = T ++ [AObj.buf 5 1 [by8 n.toUInt8], .buf 5 1 ((lbs n (t + 1 + 1)).map by8)]
        rw [lbs_next n (t + 1)]; rfl
  · have ht : t = k := by omega
    subst ht
    (simp -dsimp +decide only [va, vc, vu, vl, Tryd.ty, Tryd.en, ↓reduceIte, Nat.reduceSub, Nat.reduceAdd, Nat.reduceMul, Nat.reduceLT, Int.reduceAdd, Int.reduceSub, Int.reduceToNat, Int.cast_ofNat_Int])
    cases t with
    | zero => omega
    | succ t => exact Vw.done ⟨rfl, rfl, rfl⟩
set_option maxRecDepth 8000 in
theorem rput_nil {T : Tbl} {n : UInt64} {k : Nat} (hk : okSize k) : CallA Tryd.prog Tryd.G 25 [.p (.slice none 0 0), .p (.int .u64 (n.toNat : Int)), .p (.int .i64 (k : Int))] T fun v T' es => v = .sl T.length 0 k ∧ T' = T ++ [.buf 5 1 ((lbs n k).map by8)] ∧ es = [] := by
  have hk8 : 0 < k ∧ k ≤ 8 := by unfold okSize at hk; omega
  have hs1 : ((k : Int) = 1 ∨ (k : Int) = 2 ∨ (k : Int) = 4 ∨ (k : Int) = 8) = True := by unfold okSize at hk; simp; omega
  refine CallA.wfs fun wf => ?_
  have wt := wf.t
  have hsl := lbs_len n k
  refine CallA.enterV 20 Tryd.func25 Tryd.ntmps25 (congrArg Array.toList Tryd.results25) rfl ⟨by simp, by simp⟩ (by kernel_rfl) (by kernel_rfl) ?_
  (simp -dsimp +decide only [va, vc, vu, vl, Tryd.ty, Tryd.en, ↓reduceIte, Nat.reduceSub, Nat.reduceAdd, Nat.reduceMul, Nat.reduceLT, Int.reduceAdd, Int.reduceSub, Int.reduceToNat, Int.cast_ofNat_Int])
  (simp -dsimp +decide (disch := omega) only [va, vc, vu, vl, Tryd.ty, Tryd.en, ↓reduceIte, Nat.reduceSub, Nat.reduceAdd, Nat.reduceMul, Nat.reduceLT, Int.reduceAdd, Int.reduceSub, Int.reduceToNat, Int.cast_ofNat_Int, vi, getO_i, vt, wt])
  refine size_ok.det ?_
  (simp -dsimp +decide (disch := omega) only [va, vc, vu, vl, Tryd.ty, Tryd.en, ↓reduceIte, Nat.reduceSub, Nat.reduceAdd, Nat.reduceMul, Nat.reduceLT, Int.reduceAdd, Int.reduceSub, Int.reduceToNat, Int.cast_ofNat_Int, vi, getO_i, vt, wt, hs1])
  refine (low_ok hk).mono ?_
  rintro v T' es ⟨rfl, rfl, rfl⟩
  (simp -dsimp +decide (disch := omega) only [va, vc, vu, vl, Tryd.ty, Tryd.en, ↓reduceIte, Nat.reduceSub, Nat.reduceAdd, Nat.reduceMul, Nat.reduceLT, Int.reduceAdd, Int.reduceSub, Int.reduceToNat, Int.cast_ofNat_Int, vi, getO_i, vt, wt, hsl])
  rw [List.drop_zero, List.take_of_length_le (Nat.le_of_eq hsl)]
  refine ⟨Nat.le_refl _, ⟨by omega, by omega⟩, Vw.cutN (T.length + 1) (by omega) ?_⟩
  (simp -dsimp +decide only [va, vc, vu, vl, Tryd.ty, Tryd.en, ↓reduceIte, Nat.reduceSub, Nat.reduceAdd, Nat.reduceMul, Nat.reduceLT, Int.reduceAdd, Int.reduceSub, Int.reduceToNat, Int.cast_ofNat_Int, vt, wt])
  exact Vw.done ⟨rfl, rfl, rfl⟩
end Go.Proofs.YtmcbdlefakjpoaaDoor

set_option linter.unusedSimpArgs false
set_option linter.unusedVariables false
set_option linter.unusedSectionVars false
namespace Go.E
section
variable {P : Program} {k : TypeId}
/-- is it a key of type k? -/
def Ky (P : Program) (k : TypeId) (v : Value) : Prop := ∃ l, keyOf P k v = some l
open Classical in
theorem kfind_none {es : List MapEntry} {x : Value} (h : ∀ e ∈ es, e.key ≠ x) : kfind es x = none := by
  unfold kfind
  rw [List.findIdx?_eq_none_iff.2 fun e he => by simpa using h e he]; rfl
open Classical in
theorem kfind_some {es : List MapEntry} {x : Value} {j : Nat} {e : MapEntry} (hn : (es.map (·.key)).Nodup) (hj : es[j]? = some e) (hk : e.key = x) : kfind es x = some (j, e.val) := by
  unfold kfind
  obtain ⟨h1, h2⟩ := List.getElem?_eq_some_iff.1 hj
  have : es.findIdx? (fun e => decide (e.key = x)) = some j := by
    rw [List.findIdx?_eq_some_iff_getElem]
    refine ⟨h1, by simp [h2, hk], fun i hi => ?_⟩
    intro he
    have he' : (es[i]'(by omega)).key = x := by simpa using he
    have := nodup_at hn (i := i) (j := j) (a := es[i]'(by omega)) (b := e) (by simp) hj (by rw [he', hk])
    omega
  rw [this]
  simp [hj]
theorem KL.of (h : WideMaps.KeyLaw P k) : KL P k (Ky P k) where
  check := fun w em v ⟨l, hl⟩ => h.check w em hl
  find := fun w x ⟨l, hl⟩ es hes hn => by
    rcases h.find w hl es hes with ⟨h1, h2⟩ | ⟨j, e, h1, h2, h3⟩
    · rw [h1, kfind_none h2]
    · rw [h1, kfind_some hn h2 h3]
  stays := fun w v ⟨l, hl⟩ => h.stays w hl
open Classical in
theorem findNow_of {d : TypeDesc} {x : Value} (hs : ∀ y : Value, (Instr.sameNow d x y).isSome = true → Instr.sameNow d x y = some (decide (y = x))) : ∀ (es : List MapEntry) (i : Nat), (∀ e ∈ es, (Instr.sameNow d x e.key).isSome = true) →
    Instr.findNow d x es i = some ((kfind es x).map fun p => (p.1 + i, p.2))
  | [], i, _ => rfl
  | e :: es, i, h => by
    have h1 := hs e.key (h e (by simp))
    have ih := findNow_of hs es (i + 1) fun e he => h e (by simp [he])
    by_cases hk : e.key = x
    · have : Instr.findNow d x (e :: es) i = some (some (i, e.val)) := by rw [Instr.findNow, h1, decide_eq_true hk]
      rw [this]
      simp [kfind, List.findIdx?_cons, hk]
    · have : Instr.findNow d x (e :: es) i = Instr.findNow d x es (i + 1) := by rw [Instr.findNow, h1, decide_eq_false hk]
      rw [this, ih]
      unfold kfind
      rw [List.findIdx?_cons]
      simp only [decide_eq_false hk, Bool.false_eq_true, if_false]
      cases hf : es.findIdx? (fun e => decide (e.key = x)) with
      | none => rfl
      | some j =>
        have hj := (List.findIdx?_eq_some_iff_getElem.1 hf).1
        simp [hj]; omega
open Classical in
theorem KL.plain {d : TypeDesc} {S : Value → Prop} (hd : tk P k = d) (hk : tis d = true) (hw : ∀ v, S v → MapKept.IsKey d v) (hb : ∀ v, S v → Instr.sameBits 10000 v v = true)
    (hs : ∀ x y, S x → S y → Instr.sameNow d x y = some (decide (y = x))) (hs' : ∀ x y, S x → (Instr.sameNow d x y).isSome = true → Instr.sameNow d x y = some (decide (y = x))) : KL P k S where
  check := fun w em v h => MapKept.run_checkKey (und_of hd hk) (hw v h) em 9999
  find := fun w x hx es hes _ => by
    have := findNow_of (d := d) (x := x) (fun y => hs' x y hx) es 0 fun e he => by rw [hs x e.key hx (hes e he)]; rfl
    have e2 : ((kfind es x).map fun p => (p.1 + 0, p.2)) = kfind es x := by cases kfind es x <;> rfl
    rw [e2] at this
    exact MapKept.run_findKey (und_of hd hk) this
  stays := fun w v h => by simp [Instr.keyThatStays, hb v h]
theorem sb_int (q : IntKind) (m : Int) : ∀ n, Instr.sameBits n (.int q m) (.int q m) = true
  | 0 => by rw [Instr.sameBits]; simp only [beq_self_eq_true, Bool.and_self]
  | n + 1 => by rw [Instr.sameBits]; simp only [beq_self_eq_true, Bool.and_self]
theorem beq_bytes (a b : ByteArray) : (a == b) = true ↔ a = b := by
  rw [beq_toListBytes, beq_iff_eq]
  constructor
  · intro h
    have : a.data.toList = b.data.toList := by simpa [ByteArray.toList_eq] using h
    cases a; cases b; simp_all
  · rintro rfl; rfl
theorem sb_str (s : ByteArray) : ∀ n, Instr.sameBits n (.string s) (.string s) = true
  | 0 => by rw [Instr.sameBits]; exact (beq_bytes s s).2 rfl
  | n + 1 => by rw [Instr.sameBits]; exact (beq_bytes s s).2 rfl
theorem sn_int (q q' : IntKind) (n m : Int) : Instr.sameNow (.int q) (.int q n) (.int q' m) = if q = q' then some (n == m) else none := rfl
theorem sn_str (a b : ByteArray) : Instr.sameNow .string (.string a) (.string b) = some (a == b) := rfl
open Classical in
theorem KL.int {q : IntKind} (hd : tk P k = .int q) : KL P k (fun v => ∃ n, v = .int q n) := by
  refine .plain hd rfl ?_ ?_ ?_ ?_
  · rintro _ ⟨n, rfl⟩; simp [MapKept.IsKey]
  · rintro _ ⟨n, rfl⟩; exact sb_int _ _ _
  · rintro _ _ ⟨n, rfl⟩ ⟨m, rfl⟩
    simp only [sn_int, if_true, Option.some.injEq, Value.int.injEq, true_and]
    rw [Bool.eq_iff_iff]; simp only [beq_iff_eq, decide_eq_true_iff]; exact eq_comm
  · rintro _ y ⟨n, rfl⟩ h
    cases y <;> first | (simp [Instr.sameNow] at h; done) | skip
    rename_i k' m
    rw [sn_int] at h
    by_cases e : q = k'
    · subst e
      simp only [sn_int, if_true, Option.some.injEq, Value.int.injEq, true_and]
      rw [Bool.eq_iff_iff]; simp only [beq_iff_eq, decide_eq_true_iff]; exact eq_comm
    · simp [e] at h
open Classical in
theorem KL.string (hd : tk P k = .string) : KL P k (fun v => ∃ s, v = .string s) := by
  refine .plain hd rfl ?_ ?_ ?_ ?_
  · rintro _ ⟨n, rfl⟩; simp [MapKept.IsKey]
  · rintro _ ⟨n, rfl⟩; exact sb_str _ _
  · rintro _ _ ⟨n, rfl⟩ ⟨m, rfl⟩
    simp only [sn_str, Option.some.injEq, Value.string.injEq]
    rw [Bool.eq_iff_iff]; simp only [beq_bytes, decide_eq_true_iff]; exact eq_comm
  · rintro _ y ⟨n, rfl⟩ h
    cases y <;> first | (simp [Instr.sameNow] at h; done) | skip
    simp only [sn_str, Option.some.injEq, Value.string.injEq]
    rw [Bool.eq_iff_iff]; simp only [beq_bytes, decide_eq_true_iff]; exact eq_comm

/-! ### The cells of a type whose parts are bools, integers, strings -/
inductive Lf where
  | b
  | i (q : IntKind)
  | s
def leafL (P : Program) (t : TypeId) (l : List Lf) : Option (List Lf) := if l.length = P.cellsOf t then some l else none
def leaf (P : Program) : Nat → TypeId → Option (List Lf)
  | 0, _ => none
  | d + 1, t => match P.underlying t with
    | some .bool => leafL P t [.b]
    | some (.int q) => leafL P t [.i q]
    | some .string => leafL P t [.s]
    | some (.array n e) => (leaf P d e).bind fun l => leafL P t (List.replicate n l).flatten
    | some (.struct fs) => (fs.toList.mapM fun f => leaf P d f.type).bind fun ls => leafL P t ls.flatten
    | _ => none
def Fit : Lf → Value → Prop
  | .b, .bool _ => True
  | .i q, .int q' n => q' = q ∧ (Lit.int q n).wf = true
  | .s, .string s => s.size ≤ maxLen
  | _, _ => False
inductive FitL : List Lf → List Value → Prop
  | nil : FitL [] []
  | cons {l : Lf} {v : Value} {ls : List Lf} {vs : List Value} (h : Fit l v) (hs : FitL ls vs) : FitL (l :: ls) (v :: vs)
theorem FitL.length : ∀ {ls : List Lf} {vs : List Value}, FitL ls vs → ls.length = vs.length
  | _, _, .nil => rfl
  | _, _, .cons _ h => by simp [h.length]
theorem FitL.append : ∀ {ls ms : List Lf} {vs us : List Value}, FitL ls vs → FitL ms us → FitL (ls ++ ms) (vs ++ us)
  | _, _, _, _, .nil, h => h
  | _, _, _, _, .cons a h', h => .cons a (h'.append h)
theorem FitL.split : ∀ {ls ms : List Lf} {vs : List Value}, FitL (ls ++ ms) vs → FitL ls (vs.take ls.length) ∧ FitL ms (vs.drop ls.length)
  | [], ms, vs, h => ⟨by simpa using FitL.nil, by simpa using h⟩
  | l :: ls, ms, _, .cons a h => by
    obtain ⟨h1, h2⟩ := h.split
    exact ⟨by simpa using FitL.cons a h1, by simpa using h2⟩
theorem FitL.rep (l : List Lf) : ∀ {n : Nat} {vs : List Value}, FitL (List.replicate n l).flatten vs → ∀ i, i < n → FitL l ((vs.drop (i * l.length)).take l.length)
  | 0, _, _, i, hi => by omega
  | n + 1, vs, h, i, hi => by
    rw [List.replicate_succ, List.flatten_cons] at h
    obtain ⟨h1, h2⟩ := h.split
    cases i with
    | zero => simpa using h1
    | succ i =>
      have := FitL.rep l h2 i (by omega)
      rw [List.drop_drop] at this
      rwa [show (i + 1) * l.length = l.length + i * l.length by rw [Nat.succ_mul]; omega]
theorem leafL_some {t : TypeId} {l l' : List Lf} (h : leafL P t l = some l') : l = l' ∧ l'.length = P.cellsOf t := by
  unfold leafL at h
  split at h
  · cases h; exact ⟨rfl, by assumption⟩
  · cases h
theorem leaf_len : ∀ {m : Nat} {t : TypeId} {l : List Lf}, leaf P m t = some l → l.length = P.cellsOf t
  | 0, _, _, h => by cases h
  | m + 1, t, l, h => by
    unfold leaf at h
    split at h
    all_goals first
      | exact (leafL_some h).2
      | (simp only [Option.bind_eq_some_iff] at h; obtain ⟨_, _, h⟩ := h; exact (leafL_some h).2)
      | cases h
theorem mapM_all {α β : Type} {f : α → Option β} : ∀ {l : List α}, (∀ x ∈ l, ∃ y, f x = some y) → ∃ ys, l.mapM f = some ys
  | [], _ => ⟨[], by simp⟩
  | x :: l, h => by
    obtain ⟨y, hy⟩ := h x (by simp)
    obtain ⟨ys, hys⟩ := mapM_all (l := l) fun x hx => h x (by simp [hx])
    exact ⟨y :: ys, by simp [List.mapM_cons, hy, hys]⟩
theorem keyLits_of_leaf : ∀ (m : Nat) (t : TypeId), P.tiled m t = true → P.keyTypeAt m t = true → ∀ (ls : List Lf) (vs : List Value), leaf P m t = some ls → FitL ls vs → ∃ L, P.keyLits m t vs = some L
  | 0, _, h, _, _, _, _, _ => by simp [Program.tiled] at h
  | m + 1, t, ht, hk, ls, vs, hl, hf => by
    have hlen := leaf_len hl
    unfold leaf at hl
    unfold Program.keyLits
    simp only [Program.tiled] at ht
    simp only [Program.keyTypeAt] at hk
    split at hl
    · rename_i hu
      obtain ⟨rfl, _⟩ := leafL_some hl
      cases hf with
      | @cons _ v _ us h hs =>
        cases hs
        cases v <;> simp only [Fit] at h
        simp [hu]
    · rename_i q hu
      obtain ⟨rfl, _⟩ := leafL_some hl
      cases hf with
      | @cons _ v _ us h hs =>
        cases hs
        cases v <;> simp only [Fit] at h
        obtain ⟨rfl, h⟩ := h
        simp [hu, h]
    · rename_i hu
      obtain ⟨rfl, _⟩ := leafL_some hl
      cases hf with
      | @cons _ v _ us h hs =>
        cases hs
        cases v <;> simp only [Fit] at h
        simp [hu, h]
    · rename_i n e hu
      simp only [Option.bind_eq_some_iff] at hl
      obtain ⟨l, hle, hl⟩ := hl
      obtain ⟨rfl, _⟩ := leafL_some hl
      rw [hu] at ht hk
      simp only [Bool.and_eq_true, beq_iff_eq] at ht
      have he := leaf_len hle
      have hvs : vs.length = P.cellsOf t := by rw [← hlen, hf.length]
      have hall : ∀ i ∈ List.range n, ∃ y, P.keyLits m e ((vs.drop (i * P.cellsOf e)).take (P.cellsOf e)) = some y := fun i hi => by
        have := hf.rep l i (by simpa using hi)
        rw [he] at this
        exact keyLits_of_leaf m e ht.2 hk l _ hle this
      obtain ⟨ys, hys⟩ := mapM_all hall
      simp only [hu, hvs, if_true, hys, Option.map_some]
      exact ⟨_, rfl⟩
    · rename_i fs hu
      simp only [Option.bind_eq_some_iff] at hl
      obtain ⟨lss, hls, hl⟩ := hl
      obtain ⟨rfl, _⟩ := leafL_some hl
      rw [hu] at ht hk
      simp only [Bool.and_eq_true, beq_iff_eq] at ht hk
      have hvs : vs.length = P.cellsOf t := by rw [← hlen, hf.length]
      have hnames : fs.all (fun f => f.name != "_") = true := by
        rw [Array.all_eq_true] at hk ⊢
        intro i hi
        have := hk.1.1 i hi
        simp only [Bool.and_eq_true] at this
        exact this.1
      have hkt : ∀ f ∈ fs.toList, P.keyTypeAt m f.type = true := fun f hf => by
        obtain ⟨i, hi, rfl⟩ := List.getElem_of_mem hf
        have := (Array.all_eq_true.1 hk.1.1) i (by simpa using hi)
        simp only [Bool.and_eq_true] at this
        simpa using this.2
      have htl : ∀ f ∈ fs.toList, P.tiled m f.type = true := fun f hf => by
        obtain ⟨i, hi, rfl⟩ := List.getElem_of_mem hf
        have := (Array.all_eq_true.1 ht.2) i (by simpa using hi)
        simpa using this
      have key : ∀ (gs : List Field) (off tot : Nat) (lss : List (List Lf)), (∀ f ∈ gs, f ∈ fs.toList) → P.runs off gs = some tot → gs.mapM (fun f => leaf P m f.type) = some lss → FitL lss.flatten (vs.drop off) →
          ∀ f ∈ gs, ∃ y, P.keyLits m f.type ((vs.drop f.offset).take (P.cellsOf f.type)) = some y := by
        intro gs
        induction gs with
        | nil => intro _ _ _ _ _ _ _ f hf; cases hf
        | cons g gs ih =>
          intro off tot lss hmem hruns hm hfit f hf
          rw [List.mapM_cons] at hm
          simp only [bind, Option.bind_eq_some_iff, pure, Option.some.injEq] at hm
          obtain ⟨l1, h1, lr, h2, rfl⟩ := hm
          rw [List.flatten_cons] at hfit
          obtain ⟨f1, f2⟩ := hfit.split
          simp only [Program.runs] at hruns
          split at hruns
          · rename_i hoff
            have hl1 := leaf_len h1
            rcases List.mem_cons.1 hf with rfl | hf
            · rw [hoff, ← hl1]
              exact keyLits_of_leaf m f.type (htl f (hmem f (by simp))) (hkt f (hmem f (by simp))) l1 _ h1 f1
            · refine ih (off + P.cellsOf g.type) tot lr (fun f hf => hmem f (by simp [hf])) hruns h2 ?_ f hf
              rw [← hl1]
              rwa [List.drop_drop] at f2
          · cases hruns
      obtain ⟨ys, hys⟩ := mapM_all (key fs.toList 0 _ lss (fun f hf => hf) ht.1 hls (by simpa using hf))
      simp only [hu, hvs, hnames, and_self, if_true, hys, Option.map_some]
      exact ⟨_, rfl⟩
    · cases hl
/-- the facts of a type of keys: of closed terms alone -/
structure KT (P : Program) (k : TypeId) (ls : List Lf) : Prop where
  key : P.keyType k = true
  tiled : P.tiled (P.types.size + 1) k = true
  wide : (match P.underlying k with | some (.array _ _) | some (.struct _) => true | _ => false) = true
  leaf : leaf P (P.types.size + 1) k = some ls
  small : P.types.size + 2 ≤ 10000
  guard : P.eqGuardType P.depth k = false
variable {ls : List Lf}
theorem KT.law (h : KT P k ls) : WideMaps.KeyLaw P k := deep_law h.small h.key h.tiled h.wide
theorem KT.kl (h : KT P k ls) : KL P k (Ky P k) := .of h.law
theorem KT.ky (h : KT P k ls) {vs : List Value} (hf : FitL ls vs) : Ky P k (.agg vs.toArray) := by
  obtain ⟨L, hL⟩ := keyLits_of_leaf _ _ h.tiled h.key ls vs h.leaf hf
  have hfm : (Value.agg vs.toArray).formed P k = true := by
    have hs : vs.toArray.size = P.cellsOf k := by rw [← leaf_len h.leaf, hf.length]; simp
    have hw := h.wide
    unfold Value.formed
    split at hw <;> rename_i hu <;> first | (rw [hu]; simpa using hs) | cases hw
  refine ⟨.string (keyBytes L), ?_⟩
  have hw := h.wide
  unfold keyOf
  cases hu : P.underlying k with
  | none => rw [hu] at hw; cases hw
  | some d =>
    rw [hu] at hw
    cases d <;> first | (exact Bool.noConfusion hw) | (show (if (P.keyType k && Value.formed P k (Value.agg vs.toArray)) = true then _ else none) = _; rw [h.key, hfm]; simp only [Bool.and_self, if_true, Value.cells, hL, Option.map_some])
open Classical in
theorem KT.eq (h : KT P k ls) {xs ys : List Value} (hx : FitL ls xs) (hy : FitL ls ys) (w : World) : (Op.equal k (.agg xs.toArray) (.agg ys.toArray)).run P w = .ok (decide (xs = ys)) w := by
  obtain ⟨lx, h1⟩ := h.ky hx
  obtain ⟨ly, h2⟩ := h.ky hy
  obtain ⟨r, hr, hiff⟩ := run_equal_deep w (m := P.types.size + 1) (by have := h.small; omega) h.key h.wide h1 h2
  rw [hr]
  congr 1
  rw [Bool.eq_iff_iff, hiff, decide_eq_true_iff]
  constructor
  · rintro rfl
    have := h.law.inj h1 h2
    simpa using this
  · rintro rfl
    rw [h1] at h2; cases h2; rfl
theorem pureK_det {K : AV → Prop} {s : Sem Value} {v : Value} (h : ∀ w, s.run P w = .ok v w) : pureK P K s = K (.p v) := by
  refine propext ⟨fun ⟨u, h1, h2⟩ => ?_, fun hk => ⟨v, fun w _ => h w, hk⟩⟩
  have := h1 default trivial
  rw [h default] at this
  cases this; exact h2
open Classical in
theorem KT.eql (h : KT P k ls) {xs ys : List Value} (hx : FitL ls xs) (hy : FitL ls ys) (xo yo : Operand) (K : AV → Prop) :
    pureK P K (do eqGuard .eql k xo yo (.agg xs.toArray) (.agg ys.toArray); binOp .eql k (.agg xs.toArray) (.agg ys.toArray)) = K (.p (.bool (decide (xs = ys)))) :=
  pureK_det fun w => by
    have h1 := run_eqGuard_agg w .eql k xo yo xs.toArray ys.toArray h.guard
    have h2 := h.eq hx hy w
    simp only [Sem.run_bind, h1, Result.andThen_ok, binOp, h2, Sem.run_pure]
open Classical in
theorem KT.neq (h : KT P k ls) {xs ys : List Value} (hx : FitL ls xs) (hy : FitL ls ys) (xo yo : Operand) (K : AV → Prop) :
    pureK P K (do eqGuard .neq k xo yo (.agg xs.toArray) (.agg ys.toArray); binOp .neq k (.agg xs.toArray) (.agg ys.toArray)) = K (.p (.bool (!decide (xs = ys)))) :=
  pureK_det fun w => by
    have h1 := run_eqGuard_agg w .neq k xo yo xs.toArray ys.toArray h.guard
    have h2 := h.eq hx hy w
    simp only [Sem.run_bind, h1, Result.andThen_ok, binOp, h2, Sem.run_pure]
theorem FitL.u8 : ∀ (l : List UInt8), FitL (List.replicate l.length (.i .u8)) (l.map fun b => .int .u8 (b.toNat : Int))
  | [] => .nil
  | b :: l => by
    refine .cons ⟨rfl, ?_⟩ (FitL.u8 l)
    have := b.toNat_lt
    simp [Lit.wf, IntKind.min, IntKind.max, IntKind.bits, IntKind.signed]; omega
end
end Go.E
