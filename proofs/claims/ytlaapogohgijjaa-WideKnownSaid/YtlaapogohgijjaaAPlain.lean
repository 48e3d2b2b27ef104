/- The plain law of the wide chapter: the document's answer by remainders is the code's by digits. Conditions: digits from 1 to 32. -/
import Derived.Test.YtlaapogohgijjaaBExt
namespace Go.Proofs.Ytlaapogohgijjaa
open Go.RowKit

theorem pw_even (d : Int) (h0 : 1 ≤ d) : pw d = 2 * hf d := by
  unfold hf
  rw [pw_nat]
  obtain ⟨m, hm⟩ : ∃ m, d.toNat = m + 1 := ⟨d.toNat - 1, by omega⟩
  rw [hm, Nat.pow_succ]
  omega
theorem lw_sub (d n t : Int) (h1 : d ≤ 63) : lw d (IntKind.u64.wrap (n - t)) = if lw d t ≤ lw d n then lw d n - lw d t else lw d n - lw d t + pw d := by
  rw [lw_wrap d _ h1]
  have c0 := pw_pos d
  have a := lw_bd d t
  have l := lw_bd d n
  have ht : pw d * (t / pw d) + lw d t = t := Int.mul_ediv_add_emod t (pw d)
  have hn : pw d * (n / pw d) + lw d n = n := Int.mul_ediv_add_emod n (pw d)
  have e : n - t = (lw d n - lw d t) + pw d * (n / pw d - t / pw d) := by
    rw [Int.mul_sub]; omega
  have e2 : lw d (n - t) = (lw d n - lw d t) % pw d := by
    conv => lhs; rw [lw, e, Int.add_mul_emod_self_left]
  rw [e2]
  split
  · exact Int.emod_eq_of_lt (by omega) (by omega)
  · rw [← Int.add_emod_right]
    exact Int.emod_eq_of_lt (by omega) (by omega)
theorem room (d t : Int) (h1 : d ≤ 63) (t1 : t ≤ 18446744073709551615) : t - lw d t + pw d ≤ 18446744073709551616 := by
  have c0 := pw_pos d
  have ht : pw d * (t / pw d) + lw d t = t := Int.mul_ediv_add_emod t (pw d)
  have a := lw_bd d t
  have e : (18446744073709551616 : Int) = pw d * ((2 ^ (64 - d.toNat) : Nat) : Int) := by
    rw [pw_nat, ← Int.natCast_mul, ← Nat.pow_add, show d.toNat + (64 - d.toNat) = 64 by omega]; rfl
  have hlt : pw d * (t / pw d) < pw d * ((2 ^ (64 - d.toNat) : Nat) : Int) := by omega
  have hq : t / pw d < ((2 ^ (64 - d.toNat) : Nat) : Int) := Int.lt_of_mul_lt_mul_left hlt (by omega)
  have hle : pw d * (t / pw d + 1) ≤ pw d * ((2 ^ (64 - d.toNat) : Nat) : Int) := Int.mul_le_mul_of_nonneg_left (by omega) (by omega)
  rw [Int.mul_add] at hle
  omega

/-- The reference's first guess. -/
def gs (d t n : Int) : Int := IntKind.u64.wrap (IntKind.u64.wrap (t - lw d t) + n % pw d)
theorem gs_is (d t n : Int) (h1 : d ≤ 63) (t0 : 0 ≤ t) (t1 : t ≤ 18446744073709551615) : gs d t n = t - lw d t + lw d n ∧ 0 ≤ t - lw d t := by
  have c0 := pw_pos d
  have a := lw_bd d t
  have l := lw_bd d n
  have r := room d t h1 t1
  have ht : pw d * (t / pw d) + lw d t = t := Int.mul_ediv_add_emod t (pw d)
  have hq : 0 ≤ t / pw d := Int.ediv_nonneg t0 (by omega)
  have hp : 0 ≤ pw d * (t / pw d) := Int.mul_nonneg (by omega) hq
  have e : n % pw d = lw d n := rfl
  unfold gs
  rw [e, IntKind.wrap_u64, IntKind.wrap_u64]
  omega
section
variable (d t n : Int) (h0 : 1 ≤ d) (h1 : d ≤ 32) (t0 : 0 ≤ t) (t1 : t ≤ 18446744073709551615)
include h0 h1 t0 t1
theorem rp1 (g1 : IntKind.u64.wrap (gs d t n - t) < pw d) (g2 : pw d / 2 ≤ IntKind.u64.wrap (gs d t n - t)) : IntKind.u64.wrap (gs d t n - pw d) = pk d t true n := by
  have c0 := pw_pos d
  have c1 := pw_le32 d h1
  have a := lw_bd d t
  have l := lw_bd d n
  have r := room d t (by omega) t1
  obtain ⟨e, e'⟩ := gs_is d t n (by omega) t0 t1
  have ev := pw_even d h0
  rw [e] at g1 g2 ⊢
  unfold pk
  rw [if_pos rfl, lw_sub d n t (by omega)]
  simp only [IntKind.wrap_u64] at *
  split <;> split <;> omega
theorem rp2 (g2 : IntKind.u64.wrap (gs d t n - t) < pw d / 2) : gs d t n = pk d t true n := by
  have c0 := pw_pos d
  have c1 := pw_le32 d h1
  have a := lw_bd d t
  have l := lw_bd d n
  have r := room d t (by omega) t1
  obtain ⟨e, e'⟩ := gs_is d t n (by omega) t0 t1
  have ev := pw_even d h0
  rw [e] at g2 ⊢
  unfold pk
  rw [if_pos rfl, lw_sub d n t (by omega)]
  simp only [IntKind.wrap_u64] at *
  split <;> split <;> omega
theorem rp3 (g1 : pw d ≤ IntKind.u64.wrap (gs d t n - t)) (g2 : pw d / 2 < IntKind.u64.wrap (t - gs d t n)) : IntKind.u64.wrap (gs d t n + pw d) = pk d t true n := by
  have c0 := pw_pos d
  have c1 := pw_le32 d h1
  have a := lw_bd d t
  have l := lw_bd d n
  have r := room d t (by omega) t1
  obtain ⟨e, e'⟩ := gs_is d t n (by omega) t0 t1
  have ev := pw_even d h0
  rw [e] at g1 g2 ⊢
  unfold pk
  rw [if_pos rfl, lw_sub d n t (by omega)]
  simp only [IntKind.wrap_u64] at *
  split <;> split <;> omega
theorem rp4 (g1 : pw d ≤ IntKind.u64.wrap (gs d t n - t)) (g2 : IntKind.u64.wrap (t - gs d t n) ≤ pw d / 2) : gs d t n = pk d t true n := by
  have c0 := pw_pos d
  have c1 := pw_le32 d h1
  have a := lw_bd d t
  have l := lw_bd d n
  have r := room d t (by omega) t1
  obtain ⟨e, e'⟩ := gs_is d t n (by omega) t0 t1
  have ev := pw_even d h0
  rw [e] at g1 g2 ⊢
  unfold pk
  rw [if_pos rfl, lw_sub d n t (by omega)]
  simp only [IntKind.wrap_u64] at *
  split <;> split <;> omega
end
end Go.Proofs.Ytlaapogohgijjaa
