/- Counting in a map: how many different keys there are; the program's twice. -/
import Derived.Test.YtemidaamnldjmaaMem
import Derived.Maps.OwnOps
import Derived.Maps.OwnSet
import Derived.Maps.Views
namespace Go.Proofs.Ytemidaamnldjmaa
open Go.RowKit Go.Maps

/-- The map D counts the keys ks. -/
def Cnt {H : Type} (D : DataW H) (ks : List Lit) : Prop :=
  Tidy D ∧ (∀ k, WideAt.IsKeyLit k → (has D k = true ↔ k ∈ ks)) ∧ size D ≤ ks.length ∧ (size D = ks.length ↔ ks.Nodup)

theorem Cnt.nil_ {H : Type} : Cnt (.map [] : DataW H) [] :=
  ⟨tidy_empty, fun k _ => by simp [has], Nat.le_refl _, by simp [size]⟩
theorem Cnt.put {H : Type} {D : DataW H} {ks : List Lit} {x : Lit} (h : Cnt D ks) (hx : WideAt.IsKeyLit x) (d : DataW H) : Cnt (D.put x d) (ks ++ [x]) := by
  obtain ⟨ht, hh, hle, hnd⟩ := h
  have hsz := size_put ht (k := x) d
  have hp : (ks ++ [x]).Nodup ↔ ks.Nodup ∧ x ∉ ks := by
    rw [List.nodup_append]
    constructor
    · rintro ⟨h1, _, h3⟩
      exact ⟨h1, fun hm => h3 x hm x (by simp) rfl⟩
    · rintro ⟨h1, h2⟩
      refine ⟨h1, by simp, fun a ha b hb => ?_⟩
      simp at hb; subst hb
      exact fun e => h2 (e ▸ ha)
  refine ⟨ht.put hx d, fun k hk => ?_, ?_, ?_⟩
  · by_cases e : k = x
    · subst e; simp [has_put_same ht.isMap hx]
    · rw [has_put_other e, hh k hk]; simp [e]
  · rw [hsz, List.length_append]; simp only [List.length_cons, List.length_nil]; split <;> omega
  · rw [hp, hsz, List.length_append]
    simp only [List.length_cons, List.length_nil]
    by_cases hm : x ∈ ks
    · rw [if_pos ((hh x hx).2 hm)]
      constructor
      · intro e; omega
      · rintro ⟨_, h2⟩; exact absurd hm h2
    · rw [if_neg (fun e => hm ((hh x hx).1 e))]
      constructor
      · intro e; exact ⟨hnd.1 (by omega), hm⟩
      · rintro ⟨h1, _⟩; have := hnd.2 h1; omega
def sKey (s : ByteArray) : Lit := .string s.data.toList
theorem sKey_inj {a b : ByteArray} (h : sKey a = sKey b) : a = b := by
  injection h with h
  exact Go.WideShapes.bytes_inj h
theorem sKey_nodup (l : List ByteArray) : (l.map sKey).Nodup ↔ l.Nodup := by
  induction l with
  | nil => simp
  | cons a l ih =>
    rw [List.map_cons, List.nodup_cons, List.nodup_cons, ih]
    refine and_congr (not_congr ?_) Iff.rfl
    rw [List.mem_map]
    exact ⟨fun ⟨b, hb, e⟩ => sKey_inj e ▸ hb, fun h => ⟨a, h, rfl⟩⟩
theorem sKey_lit (s : ByteArray) : WideAt.IsKeyLit (sKey s) := trivial
theorem iKey_lit (k : IntKind) (n : Int) : WideAt.IsKeyLit (.int k n) := trivial
theorem iKey_nodup (l : List Int) : (l.map (Lit.int .i64)).Nodup ↔ l.Nodup := by
  induction l with
  | nil => simp
  | cons a l ih =>
    rw [List.map_cons, List.nodup_cons, List.nodup_cons, ih]
    refine and_congr (not_congr ?_) Iff.rfl
    rw [List.mem_map]
    exact ⟨fun ⟨b, hb, e⟩ => by injection e with _ e; exact e ▸ hb, fun h => ⟨a, h, rfl⟩⟩

/-- The slice reads as the strings l. -/
def Ss (w : World) (A : Option Addr) (l : List ByteArray) : Prop := Reads w w.heap.size 1 A l.length (l.map Value.string)
theorem Ss.at_ {w : World} {A : Option Addr} {l : List ByteArray} (h : Ss w A l) {k : Nat} (hk : k < l.length) : ∃ ad, A = some ad ∧ ad.block < w.heap.size ∧ w.cell? (ad.add k) = some (.string l[k]) := by
  obtain ⟨ad, u, rfl, hb, hx, hc⟩ := Reads.at_ h hk
  refine ⟨ad, rfl, hb, ?_⟩
  rw [hc]
  rw [List.getElem?_map, List.getElem?_eq_getElem hk] at hx
  simpa using hx.symm
theorem Ss.below {w w' : World} {A : Option Addr} {l : List ByteArray} (h : Ss w A l) (hb : Below w.heap.size w w') : Ss w' A l := (Reads.below h hb).more hb.size

def twiceB (l : List ByteArray) : Bool := !decide l.Nodup
theorem Cnt.twice {H : Type} {D : DataW H} {l : List ByteArray} (h : Cnt D (l.map sKey)) : decide (size D < l.length) = twiceB l := by
  obtain ⟨_, _, hle, hnd⟩ := h
  rw [List.length_map] at hle hnd
  unfold twiceB
  by_cases hn : l.Nodup
  · have := hnd.2 ((sKey_nodup l).2 hn)
    rw [decide_eq_true hn, Bool.not_true, decide_eq_false (by omega)]
  · have : size D ≠ l.length := fun e => hn ((sKey_nodup l).1 (hnd.1 e))
    rw [decide_eq_false hn, Bool.not_false, decide_eq_true (by omega)]
theorem Cnt.all {H : Type} {D : DataW H} {l : List Int} (h : Cnt D (l.map (Lit.int .i64))) : ((size D : Int) == (l.length : Int)) = decide l.Nodup := by
  obtain ⟨_, _, hle, hnd⟩ := h
  rw [List.length_map] at hle hnd
  by_cases hn : l.Nodup
  · have := hnd.2 ((iKey_nodup l).2 hn)
    rw [decide_eq_true hn, beq_iff_eq]; omega
  · have : size D ≠ l.length := fun e => hn ((iKey_nodup l).1 (hnd.1 e))
    rw [decide_eq_false hn, beq_eq_false_iff_ne]; omega

set_option maxRecDepth 100000 in
set_option maxHeartbeats 1000000 in
theorem twice_any (A : Option Addr) (l : List ByteArray) (c : Nat) (w : World) (hb : Ss w A l) (hl : l.length ≤ 1000) (hs : ∀ s ∈ l, s.size ≤ 140737488351232) :
    Calls Try.prog 38 #[.slice A l.length c] w fun e w' => e = .returned (.bool (twiceB l)) ∧ Below w.heap.size w w' := by
  have HS := Lib.hid hs
  clear hs
  have hmm := @run_makeMap Try.prog
  have law : Keyed Try.prog 9 := string_keyed Try.underlying9
  have zero3 : ∀ w : World, (zeroValue 3).run Try.prog w = .ok (.int .i64 0) w := fun w => by kernel_rfl
  have Z := Lib.hid zero3
  clear zero3
  go_enter Try.func38, Try.ntmps38
  go_wp2_with fail
  go_loopw [9] (fun i wr => ∃ (k : Nat) (D : DataW Unit), k ≤ l.length ∧ i = .int .i64 k ∧ wr.ownsMap Try.prog 9 (plainElem Try.prog 3) w.heap.size k D ∧ Cnt D ((l.take k).map sKey) ∧ Below w.heap.size w wr) (fun i _ => l.length - (intOf i).toNat)
  case atStart => exact ⟨0, .map [], Nat.zero_le _, rfl, World.ownsMap_made _ _ _ _, Cnt.nil_, (Below.refl _ _).alloc (Nat.le_refl _) _⟩
  case round =>
    obtain ⟨k, D, hk, rfl, hown, hcnt, hbel⟩ := hrel
    have HC := Lib.hid hcnt
    clear hcnt
    by_cases hlt : k < l.length
    · obtain ⟨ad, rfl, _, hcell⟩ := (hb.below hbel).at_ hlt
      have hsz := HS.out l[k] (List.getElem_mem hlt)
      have hkey : keyOf Try.prog 9 (.string l[k]) = some (sKey l[k]) := WideMaps.keyOf_string_mk Try.underlying9 (by simp only [maxLen]; omega)
      have HK := Lib.hid hkey
      clear hkey hsz
      go_wp2_with (first
        | (at_lookup; refine wpList_lookup_own_int _ rfl _ _ 102 rfl 9 3 .i64 law Try.underlying102 Try.underlying3 (Z.out _) w.heap.size k _ rfl hown _ _ rfl HK.out ?_; intro cc hat hwc)
        | (at_mapUpdate; refine wpList_mapUpdate_own _ rfl _ _ _ 102 rfl 9 3 law Try.underlying102 _ w.heap.size k _ rfl hown (by unfold maxLen; omega) _ _ _ rfl rfl HK.out _ [] (plainElem_int Try.underlying3 (wrap64_wf _)) ?_; intro w1 hown1 hgrow1))
      go_roundw
      case rel =>
        refine ⟨k + 1, _, by omega, by go_num, hown1, ?_, hbel.grown hgrow1 hbel.size (fun j hj => by cases hj; exact Nat.le_refl _)⟩
        rw [List.take_succ_eq_append_getElem hlt, List.map_append]
        exact HC.out.put (sKey_lit _) _
      case measure => simp [intOf]; omega
    · obtain rfl : k = l.length := by omega
      have HT := Lib.hid (Cnt.twice (by have := HC.out; rwa [List.take_length] at this))
      go_wp2_with (at_len; (refine wpList_len_own _ rfl (.tmp 18) 102 rfl 9 3 Try.underlying102 _ w.heap.size l.length D rfl hown ?_))
      go_ret
      exact ⟨by rw [← HT.out]; rfl, hbel⟩

end Go.Proofs.Ytemidaamnldjmaa
