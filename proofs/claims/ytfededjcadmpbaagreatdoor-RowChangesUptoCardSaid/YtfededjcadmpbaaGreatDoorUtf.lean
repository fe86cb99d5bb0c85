/- UTF-8, plain Lean: what the document's First does at a place is the model's own decoding. -/
import Derived.Test.YtfededjcadmpbaaGreatDoorMem
import Derived.Lib.DecodeN
import Derived.Lib.RuneCount
namespace Go.Proofs.YtfededjcadmpbaaGreatDoor
open Go.RowKit Go.Lib

set_option maxRecDepth 100000 in
theorem dec1 {n b0 b1 b2 b3 : Nat} (h : b0 < 128) : decodeN n b0 b1 b2 b3 = (b0, 1) := by unfold decodeN; rw [if_pos h]
set_option maxRecDepth 100000 in
theorem dec_lead {n b0 b1 b2 b3 : Nat} (h : 128 ≤ b0) (h2 : b0 < 194 ∨ 244 < b0) (h8 : b0 < 256) : decodeN n b0 b1 b2 b3 = (65533, 1) := by
  unfold decodeN
  repeat' split
  all_goals first | rfl | (exfalso; omega)
set_option maxRecDepth 100000 in
theorem dec2_ok {n b0 b1 b2 b3 : Nat} (h : 194 ≤ b0) (h2 : b0 ≤ 223) (hn : 1 < n) (h3 : 128 ≤ b1) (h4 : b1 ≤ 191) : decodeN n b0 b1 b2 b3 = ((b0 - 192) * 64 + (b1 - 128), 2) := by
  unfold decodeN
  rw [if_neg (by omega), if_pos (by omega), if_pos (by omega)]
  congr 1; omega
set_option maxRecDepth 100000 in
theorem dec2_bad {n b0 b1 b2 b3 : Nat} (h : 194 ≤ b0) (h2 : b0 ≤ 223) (hb : n ≤ 1 ∨ b1 < 128 ∨ 191 < b1) (h1 : b1 < 256) : decodeN n b0 b1 b2 b3 = (65533, 1) := by
  unfold decodeN
  rw [if_neg (by omega), if_neg (by omega), if_neg (by omega), if_neg (by omega)]
set_option maxRecDepth 100000 in
theorem dec3_ok {n b0 b1 b2 b3 c : Nat} (h : 224 ≤ b0) (h2 : b0 ≤ 239) (hn : 2 < n) (h3 : 128 ≤ b1) (h4 : b1 ≤ 191) (h5 : 128 ≤ b2) (h6 : b2 ≤ 191) (hc : c = ((b0 - 224) * 64 + (b1 - 128)) * 64 + (b2 - 128)) (hg : 2048 ≤ c) (hg2 : c < 55296 ∨ 57343 < c) : decodeN n b0 b1 b2 b3 = (c, 3) := by
  unfold decodeN
  rw [if_neg (by omega), if_neg (by omega), if_pos (by omega), if_pos (by omega)]
  congr 1; omega
set_option maxRecDepth 100000 in
theorem dec3_bad {n b0 b1 b2 b3 : Nat} (h : 224 ≤ b0) (h2 : b0 ≤ 239) (hb : n ≤ 2 ∨ b1 < 128 ∨ 191 < b1 ∨ b2 < 128 ∨ 191 < b2) (h1 : b1 < 256) (hb2 : b2 < 256) : decodeN n b0 b1 b2 b3 = (65533, 1) := by
  unfold decodeN
  rw [if_neg (by omega), if_neg (by omega), if_neg (by omega), if_neg (by omega)]
set_option maxRecDepth 100000 in
theorem dec3_out {n b0 b1 b2 b3 c : Nat} (h : 224 ≤ b0) (h2 : b0 ≤ 239) (hn : 2 < n) (h3 : 128 ≤ b1) (h4 : b1 ≤ 191) (h5 : 128 ≤ b2) (h6 : b2 ≤ 191) (hc : c = ((b0 - 224) * 64 + (b1 - 128)) * 64 + (b2 - 128)) (hg : c < 2048 ∨ (55296 ≤ c ∧ c ≤ 57343)) : decodeN n b0 b1 b2 b3 = (65533, 1) := by
  unfold decodeN
  rw [if_neg (by omega), if_neg (by omega), if_pos (by omega), if_neg (by omega)]
set_option maxRecDepth 100000 in
theorem dec4_ok {n b0 b1 b2 b3 c : Nat} (h : 240 ≤ b0) (h2 : b0 ≤ 244) (hn : 3 < n) (h3 : 128 ≤ b1) (h4 : b1 ≤ 191) (h5 : 128 ≤ b2) (h6 : b2 ≤ 191) (h7 : 128 ≤ b3) (h8 : b3 ≤ 191) (hc : c = (((b0 - 240) * 64 + (b1 - 128)) * 64 + (b2 - 128)) * 64 + (b3 - 128)) (hg : 65536 ≤ c) (hg2 : c ≤ 1114111) : decodeN n b0 b1 b2 b3 = (c, 4) := by
  unfold decodeN
  rw [if_neg (by omega), if_neg (by omega), if_neg (by omega), if_pos (by omega), if_pos (by omega)]
  congr 1; omega
set_option maxRecDepth 100000 in
theorem dec4_bad {n b0 b1 b2 b3 : Nat} (h : 240 ≤ b0) (h2 : b0 ≤ 244) (hb : n ≤ 3 ∨ b1 < 128 ∨ 191 < b1 ∨ b2 < 128 ∨ 191 < b2 ∨ b3 < 128 ∨ 191 < b3) (h1 : b1 < 256) (hb2 : b2 < 256) (hb3 : b3 < 256) : decodeN n b0 b1 b2 b3 = (65533, 1) := by
  unfold decodeN
  rw [if_neg (by omega), if_neg (by omega), if_neg (by omega), if_neg (by omega)]
set_option maxRecDepth 100000 in
theorem dec4_out {n b0 b1 b2 b3 c : Nat} (h : 240 ≤ b0) (h2 : b0 ≤ 244) (hn : 3 < n) (h3 : 128 ≤ b1) (h4 : b1 ≤ 191) (h5 : 128 ≤ b2) (h6 : b2 ≤ 191) (h7 : 128 ≤ b3) (h8 : b3 ≤ 191) (hc : c = (((b0 - 240) * 64 + (b1 - 128)) * 64 + (b2 - 128)) * 64 + (b3 - 128)) (hg : c < 65536 ∨ 1114111 < c) : decodeN n b0 b1 b2 b3 = (65533, 1) := by
  unfold decodeN
  rw [if_neg (by omega), if_neg (by omega), if_neg (by omega), if_pos (by omega), if_neg (by omega)]

/-- is what begins at a place well-formed? -/
def okAt (s : ByteArray) (i : Nat) : Bool := decide (Utf8.decode s i ≠ (65533, 1))
/-- the first place from pos on that isn't well-formed, by at most so many runes -/
def badFrom (s : ByteArray) : Nat → Nat → Option Nat
  | 0, _ => none
  | f + 1, pos => if pos < s.size then (if okAt s pos then badFrom s f (pos + (Utf8.decode s pos).2) else some pos) else none
def badAt (s : ByteArray) : Option Nat := badFrom s s.size 0
theorem badFrom_end (s : ByteArray) (f pos : Nat) (h : ¬ pos < s.size) : badFrom s f pos = none := by
  cases f <;> simp [badFrom, h]

/-- the runes, each with its place, from a place on, by at most so many -/
def runesFrom (s : ByteArray) : Nat → Nat → List (Nat × Nat)
  | 0, _ => []
  | f + 1, pos => if pos < s.size then ((Utf8.decode s pos).1, pos) :: runesFrom s f (pos + (Utf8.decode s pos).2) else []
def runesL (s : ByteArray) : List (Nat × Nat) := runesFrom s s.size 0
theorem runesFrom_end (s : ByteArray) (f pos : Nat) (h : ¬ pos < s.size) : runesFrom s f pos = [] := by
  cases f <;> simp [runesFrom, h]
theorem runesFrom_len (s : ByteArray) : ∀ f pos, (runesFrom s f pos).length = runeCountFrom s f pos
  | 0, _ => by simp [runesFrom, runeCountFrom]
  | f + 1, pos => by
    unfold runesFrom runeCountFrom
    split
    · rw [List.length_cons, runesFrom_len s f]; omega
    · rfl
theorem runesL_len (s : ByteArray) : (runesL s).length = runeCount s := runesFrom_len s _ _

end Go.Proofs.YtfededjcadmpbaaGreatDoor
