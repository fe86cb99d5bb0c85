/- How many bytes all files of the disk have: Used. -/
import Derived.Test.YtbldfgpnghoigaaDskR
import Derived.Sort.KeysCollected
import Derived.StringKeys
namespace Go.Proofs.Ytbldfgpnghoigaa
open Go.RowKit
open Go.Maps

def usedL (fs : List DF) : Nat := (fs.map (fun q => q.data.length)).sum
def sumL (left : Lit → Bool) (fs : List DF) : Nat := (fs.map (fun q => (left (.string q.name)).toNat * q.data.length)).sum
theorem sumL_cons (left : Lit → Bool) (x : DF) (r : List DF) : sumL left (x :: r) = (left (.string x.name)).toNat * x.data.length + sumL left r := by
  unfold sumL
  rw [List.map_cons, List.sum_cons]
theorem sumL_congr {left left' : Lit → Bool} : ∀ {fs : List DF}, (∀ q ∈ fs, left (.string q.name) = left' (.string q.name)) → sumL left fs = sumL left' fs
  | [], _ => rfl
  | x :: r, h => by rw [sumL_cons, sumL_cons, h x (List.mem_cons_self ..), sumL_congr (fun q hq => h q (List.mem_cons_of_mem _ hq))]
theorem sumL_all {left : Lit → Bool} : ∀ {fs : List DF}, (∀ q ∈ fs, left (.string q.name) = true) → sumL left fs = usedL fs
  | [], _ => rfl
  | x :: r, h => by
    rw [sumL_cons, h x (List.mem_cons_self ..), sumL_all (fun q hq => h q (List.mem_cons_of_mem _ hq))]
    show 1 * x.data.length + usedL r = (List.map (fun q => q.data.length) (x :: r)).sum
    rw [List.map_cons, List.sum_cons, Nat.one_mul]
    rfl
theorem sumL_none {left : Lit → Bool} (h : ∀ kl, left kl = false) : ∀ {fs : List DF}, sumL left fs = 0
  | [] => rfl
  | x :: r => by rw [sumL_cons, h, sumL_none h]; show 0 * x.data.length + 0 = 0; rw [Nat.zero_mul]
theorem sumL_strike {left : Lit → Bool} : ∀ {fs : List DF}, (fs.map DF.name).Nodup → ∀ {q : DF}, q ∈ fs → left (.string q.name) = true → sumL left fs = q.data.length + sumL (fun z => left z && !z.sameKey (.string q.name)) fs
  | [], _, _, hq, _ => by cases hq
  | x :: r, hn, q, hq, hl => by
    rw [List.map_cons, List.nodup_cons] at hn
    rw [sumL_cons, sumL_cons]
    rcases List.mem_cons.1 hq with rfl | hq
    · have h1 : (left (.string q.name) && !(Lit.string q.name).sameKey (.string q.name)) = false := by rw [WideAt.sameKey_self (a := .string q.name) trivial]; simp
      have h2 : sumL left r = sumL (fun z => left z && !z.sameKey (.string q.name)) r := sumL_congr fun p hp => by
        show left (.string p.name) = (left (.string p.name) && !(Lit.string p.name).sameKey (.string q.name))
        rw [sameKey_ne (lit_ne (fun e => hn.1 (by rw [← e]; exact List.mem_map_of_mem hp)))]
        simp
      have e1 : (left (.string q.name)).toNat = 1 := by rw [hl]; rfl
      show (left (.string q.name)).toNat * _ + _ = _ + ((left (.string q.name) && !(Lit.string q.name).sameKey (.string q.name)).toNat * _ + _)
      rw [h1, e1, h2]
      show 1 * _ + _ = _ + (0 * _ + _)
      omega
    · have h1 : x.name ≠ q.name := fun e => hn.1 (by rw [e]; exact List.mem_map_of_mem hq)
      have h2 : (left (.string x.name) && !(Lit.string x.name).sameKey (.string q.name)) = left (.string x.name) := by rw [sameKey_ne (lit_ne h1)]; simp
      rw [sumL_strike hn.2 hq hl]
      show _ + (_ + _) = _ + ((left (.string x.name) && !(Lit.string x.name).sameKey (.string q.name)).toNat * x.data.length + _)
      rw [h2]
      omega
theorem run_range_none (w : World) : (Instr.range 70 (.map none)).run Try.prog w = .ok (.pointer (some ⟨w.heap.size, 0, none⟩)) (w.alloc (.mapIter none 0 #[] 0)) := by
  simp [Instr.range, run_underlying Try.underlying70, Result.andThen]
theorem run_getObj_iter {w : World} {r : Nat} {m : Option Nat} {s : Nat} {seen : Array Nat} {c : Nat} (h : w.heap[r]? = some (.mapIter m s seen c)) : (getObj r).run Try.prog w = .ok (.mapIter m s seen c) w := by
  simp only [getObj, Sem.run, h]
theorem run_next_none (w : World) (r : Nat) (t : TypeId) (h : w.heap[r]? = some (.mapIter none 0 #[] 0)) : (Instr.next (.pointer (some ⟨r, 0, none⟩)) false t).run Try.prog w = .ok (.tuple #[.bool false]) w := by
  simp [Instr.next, run_getObj_iter h, Result.andThen]
set_option maxRecDepth 100000 in
set_option maxHeartbeats 2000000 in
theorem used_any (d : LDisk) (mv : Value) (b : Nat) (fs : List DF) (w : World) (hk : Blk w b 72 (diskC mv d)) (hf : FilesAt w mv fs) (hu : usedL fs ≤ 4611686018427387904) :
    Calls Try.prog 52 #[.pointer (some ⟨b, 0, none⟩)] w (fun en w' => en = .returned (.int .i64 (usedL fs : Int)) ∧ Below w.heap.size w w') := by
  have law : Keyed Try.prog 9 := string_keyed Try.underlying9
  have y0 : w.cell? ⟨b, 0, none⟩ = some mv := hk.cell 0
  rcases hf with ⟨rfl, rfl⟩ | ⟨mb, D, rfl, hown, hD⟩
  · have hr := run_range_none w
    have bn : Below w.heap.size w (w.alloc (.mapIter none 0 #[] 0)) := (Below.refl _ _).alloc (Nat.le_refl _) _
    have hh : (w.alloc (.mapIter none 0 #[] 0)).heap[w.heap.size]? = some (.mapIter none 0 #[] 0) := (MapKept.heap_alloc w _).1
    have hnx : ∀ t, (Instr.next (.pointer (some ⟨w.heap.size, 0, none⟩)) false t).run Try.prog (w.alloc (.mapIter none 0 #[] 0)) = .ok (.tuple #[.bool false]) (w.alloc (.mapIter none 0 #[] 0)) := fun t => run_next_none _ _ t hh
    clear hh
    go_enter Try.func52, Try.ntmps52
    go_wp2_with fail
    generalize w.alloc (.mapIter none 0 #[] 0) = W at *
    go_loopw [3, 5] (fun v _ wr => v = .int .i64 0 ∧ wr = W) (fun _ _ _ => 0)
    case atStart => exact ⟨rfl, rfl⟩
    case round =>
      obtain ⟨rfl, rfl⟩ := hrel
      go_wp2_with fail
      go_ret
      exact ⟨rfl, bn⟩
  · have hmb := hown.lt
    have invK : ∀ key kl, keyOf Try.prog 9 key = some kl → ∃ x, key = encStr x := fun key kl hk => by obtain ⟨x, hx, _⟩ := Maps.keyOf_str Try.underlying9 hk; exact ⟨x, hx⟩
    have invV : ∀ v y, rawR v = some y → ∃ c, v = (_root_.id : Value → Value) c := fun v y _ => ⟨v, rfl⟩
    have IK := Lib.hid invK
    have IV := Lib.hid invV
    have HD := Lib.hid hD
    clear invK invV hD
    go_enter Try.func52, Try.ntmps52
    go_wp2_with (first
      | (at_range; refine wpList_range_own _ rfl _ 70 rfl 9 92 law Try.underlying70 rawR mb fs.length D rfl hown ?_; intro w7 hrg7 hg7 hs7)
      | go_in)
    go_frame
    have b7 : Below w.heap.size w w7 := (Below.refl w.heap.size w).grown hg7 (Nat.le_refl _) (fun j hj => by cases hj)
    have hsum : sumL (has D) fs = usedL fs := sumL_all fun q hq => (HD.out.2.2.1 q.name).2 (List.mem_map_of_mem hq)
    have HSUM := Lib.hid hsum
    clear hsum hown y0
    have l7 : w.heap.size < w7.heap.size := by omega
    clear hs7 hg7
    go_loopw [3, 5] (fun v _ wr => ∃ (left : Lit → Bool) (cnt acc : Nat), wr.ranges Try.prog 9 rawR mb w.heap.size fs.length D left cnt ∧ v = .int .i64 (acc : Int) ∧ acc + sumL left fs = usedL fs ∧ Below w.heap.size w wr ∧ w.heap.size < wr.heap.size) (fun _ _ wr => wr.rangeLeft mb w.heap.size)
    case atStart => exact ⟨_, _, 0, hrg7, rfl, by rw [HSUM.out]; omega, b7, l7⟩
    case round =>
      clear hrg7 b7 l7
      obtain ⟨left, cnt, acc, hrg, rfl, hac, br, lr⟩ := hrel
      go_wp2_with (first
        | (at_next; refine wpList_next_ranges _ rfl _ rfl 9 law rawR encStr (_root_.id : Value → Value) IK.out IV.out mb w.heap.size fs.length D left cnt rfl hrg ?_ ?_)
        | go_in)
      · intro _ hl0
        have hz := sumL_none hl0 (fs := fs)
        have HZ : Hid (acc = usedL fs) := by show _ = _; omega
        clear hl0 hrg hz hac
        go_wp2_with fail
        go_ret
        rw [← HZ.out]
        exact ⟨rfl, br⟩
      · intro x c kl yd yp w8 cnt8 hkey hlk hv hat hrg8 hlt8 hg8 hs8 hen
        obtain ⟨x', ex, rfl, hxl⟩ := Maps.keyOf_str Try.underlying9 hkey
        obtain rfl : x = x' := encStr_inj ex
        have hhas : has D (.string x) = true := has_true_of_atKey hat
        have hxl2 := hxl
        obtain ⟨q, hq, hqn, hqa, _⟩ | ⟨_, _, hh⟩ := HD.out.look x
        · subst hqn
          have hcv : c = q.vv := by
            have h1 := hat (.held zF)
            rw [hqa] at h1
            have h2 : (DataW.held c, ([] : List MemPlace)) = (yd, yp) := Option.some.inj hv
            have h3 : DataW.held c = yd := congrArg Prod.fst h2
            rw [← h3] at h1
            injection h1 with h1
            exact h1.symm
          subst hcv
          have hen2 : (Instr.entry (.pointer (some ⟨w.heap.size, 0, none⟩))).run Try.prog w8 = .ok (.tuple #[.string ⟨q.name.toArray⟩, .agg #[.slice q.A q.data.length q.c, .int .i64 (q.safe : Int)]]) w8 := hen
          have hst := sumL_strike HD.out.2.1 hq hlk
          have HST := Lib.hid hst
          have b8 := br.grown hg8 br.size (fun j hj => by cases hj; exact Nat.le_refl _)
          have d9 : Below w8.heap.size w8 (w8.alloc (.cells #[.slice q.A q.data.length q.c, .int .i64 (q.safe : Int)] 92)) := (Below.refl _ _).alloc (Nat.le_refl _) _
          have kq := Blk.new w8 92 #[.slice q.A q.data.length q.c, .int .i64 (q.safe : Int)]
          have c0 : (w8.alloc (.cells #[.slice q.A q.data.length q.c, .int .i64 (q.safe : Int)] 92)).cell? ⟨w8.heap.size, 0, none⟩ = some (.slice q.A q.data.length q.c) := kq.cell 0
          have hrg9 := hrg8.alloc (.cells #[.slice q.A q.data.length q.c, .int .i64 (q.safe : Int)] 92)
          have hleft := hrg9.left_eq
          have hle := hrg.left_eq
          have b9 := b8.trans (d9.mono b8.size)
          have l9 : w.heap.size < (w8.alloc (.cells #[.slice q.A q.data.length q.c, .int .i64 (q.safe : Int)] 92)).heap.size := by have := d9.size; omega
          have hacb : acc + q.data.length ≤ 4611686018427387904 := by rw [HST.out] at hac; omega
          have hac2 : acc + q.data.length + sumL (fun z => left z && !z.sameKey (.string q.name)) fs = usedL fs := by rw [HST.out] at hac; omega
          have HAC := Lib.hid hac2
          clear hac hac2 hst HST hen hat hv hlk hqa hg8 hs8 hrg hrg8 b8 d9 hq hxl2 hkey
          go_upto_region 5 with fail
          generalize (w8.alloc (.cells #[.slice q.A q.data.length q.c, .int .i64 (q.safe : Int)] 92)) = w9 at *
          go_wp2_with fail
          go_roundw
          case rel => exact ⟨_, cnt8, acc + q.data.length, hrg9, by simp, HAC.out, b9, l9⟩
          case measure => rw [hleft, hle]; exact hlt8
        · rw [hhas] at hh; cases hh
end Go.Proofs.Ytbldfgpnghoigaa
