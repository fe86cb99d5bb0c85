/- What the hash of a key comes to: the program's and the reference's, one number. -/
import Derived.Test.YtkgggifliafclaaMem
namespace Go.Proofs.Ytkgggifliafclaa
open Go.RowKit

def hashStep (h : Int) (b : UInt8) : Int := IntKind.u64.wrap (bits .xor .u64 h (IntKind.u64.wrap (b.toNat : Int)) * 1099511628211)
def hashOf (l : List UInt8) : Int := l.foldl hashStep 14695981039346656037
theorem hash_snoc (l : List UInt8) (k : Nat) (hk : k < l.length) : hashOf (l.take (k + 1)) = hashStep (hashOf (l.take k)) l[k] := by
  unfold hashOf; rw [List.take_succ_eq_append_getElem hk, List.foldl_append]; rfl
theorem hash_bounds (l : List UInt8) : 0 ≤ hashOf l ∧ hashOf l < 18446744073709551616 := by
  rcases List.eq_nil_or_concat l with rfl | ⟨l', b, rfl⟩
  · unfold hashOf; simp only [List.foldl_nil]; omega
  · unfold hashOf
    rw [List.concat_eq_append, List.foldl_append]
    show 0 ≤ IntKind.u64.wrap _ ∧ IntKind.u64.wrap _ < _
    rw [IntKind.wrap_u64]; omega

set_option maxHeartbeats 400000 in
theorem hash_any (A : Option Addr) (l : List UInt8) (c : Nat) (w : World) (hb : Bs w A l) :
    Calls Try.prog 9 #[.slice A l.length c] w fun e w' => e = .returned (.int .u64 (hashOf l)) ∧ w = w' := by
  have hl := hb.le
  go_enter Try.func9, Try.ntmps9
  go_wp2
  go_loop [3, 8] (fun h i => ∃ k : Nat, k ≤ l.length ∧ i = .int .i64 k ∧ h = .int .u64 (hashOf (l.take k))) (fun _ i => l.length - (intOf i).toNat)
  case atStart => exact ⟨0, Nat.zero_le _, rfl, rfl⟩
  case round =>
    obtain ⟨k, hk, rfl, rfl⟩ := hrel
    by_cases hlt : k < l.length
    · have HS := Lib.hid (hash_snoc l k hlt)
      obtain ⟨ad, rfl, _, hcell⟩ := hb.at_ hlt
      go_wp2
      go_round
      case rel => exact ⟨k + 1, by omega, by go_num, by rw [HS.out]; rfl⟩
      case measure => simp [intOf]; omega
    · go_wp2
      go_ret
      exact ⟨by rw [show l.take k = l from List.take_of_length_le (by omega)]; rfl, rfl⟩

set_option maxHeartbeats 400000 in
theorem rhash_any (A : Option Addr) (l : List UInt8) (c : Nat) (w : World) (hb : Bs w A l) :
    Calls Try.prog 11 #[.slice A l.length c] w fun e w' => e = .returned (.int .u64 (hashOf l)) ∧ w = w' := by
  have hl := hb.le
  go_enter Try.func11, Try.ntmps11
  go_wp2
  go_loop [3, 4] (fun h i => ∃ k : Nat, k ≤ l.length ∧ i = .int .i64 k ∧ h = .int .u64 (hashOf (l.take k))) (fun _ i => l.length - (intOf i).toNat)
  case atStart => exact ⟨0, Nat.zero_le _, rfl, rfl⟩
  case round =>
    obtain ⟨k, hk, rfl, rfl⟩ := hrel
    by_cases hlt : k < l.length
    · have HS := Lib.hid (hash_snoc l k hlt)
      obtain ⟨ad, rfl, _, hcell⟩ := hb.at_ hlt
      go_wp2
      go_round
      case rel => exact ⟨k + 1, by omega, by go_num, by rw [HS.out]; rfl⟩
      case measure => simp [intOf]; omega
    · go_wp2
      go_ret
      exact ⟨by rw [show l.take k = l from List.take_of_length_le (by omega)]; rfl, rfl⟩

end Go.Proofs.Ytkgggifliafclaa
