/- Is a version of at most one file right: manifest.Right. -/
import Derived.Test.YtmgibpedclngpaaManP
import Derived.Test.YtmgibpedclngpaaCmpN
import Derived.Test.YtmgibpedclngpaaMRead
import Derived.Maps.Own
import Derived.Maps.OwnOps
import Derived.Maps.OwnSet
import Derived.Maps.Views
namespace Go.Proofs.Ytmgibpedclngpaa
open Go.RowKit
open Go.Maps

def okF (f : LFile) (next : Nat) : Bool := decide (0 ≤ f.level) && (decide (f.level < 4) && (decide (cmpL f.first f.last ≤ 0) && decide (f.num < next)))
def right1 (fs : List LFile) (next : Nat) : Bool := fs.all (fun f => okF f next)
theorem right1_one {fs : List LFile} {next : Nat} (h1 : fs.length ≤ 1) (h : 0 < fs.length) : right1 fs next = okF fs[0] next := by
  match fs, h1, h with
  | [f], _, _ => exact Bool.and_true (okF f next)
theorem zeroI (w : World) : (zeroValue 3).run Try.prog w = .ok (.int .i64 0) w := by kernel_rfl
theorem wf_u64 {n : Nat} (h : U64 n) : (Lit.int .u64 (n : Int)).wf = true := by
  unfold U64 at h
  simp [Lit.wf, IntKind.min, IntKind.max, IntKind.bits, IntKind.signed]
  omega
theorem zero_of_nil {k : Lit} {c : Int} (h : (DataW.map (H := Nat) []).atKey k (.lit (.int .i64 0)) = .lit (.int .i64 c)) : c = 0 := by
  simp [DataW.atKey] at h
  exact h.symm
theorem size_one {k : Lit} {d : DataW Nat} (h : Tidy (DataW.map (H := Nat) [])) : size ((DataW.map (H := Nat) []).put k d) = 1 := by
  rw [size_put h]
  rfl
theorem ownsMapDrewN {H : Type} {P : Program} {k : TypeId} {R : Value → Option (DataW H × List MemPlace)} {w : World} {b n : Nat} {D : DataW H} (h : w.ownsMap P k R b n D) : ∀ m, (w.drewN m).ownsMap P k R b n D
  | 0 => h
  | m + 1 => ownsMapDrewN h.drew m
set_option maxRecDepth 100000 in
set_option maxHeartbeats 4000000 in
theorem right_one (fs : List LFile) (next seq : Nat) (A : Option Addr) (a : Nat) (w : World) (hA' : Sl FE w A fs) (h1 : fs.length ≤ 1) : Calls Try.prog 9 #[.agg #[.slice A fs.length a, .int .u64 (next : Int), .int .u64 (seq : Int)]] w (fun en w' => en = .returned (.bool (right1 fs next)) ∧ Below w.heap.size w w') := by
  have hA : SlS FE w (fun b => b < w.heap.size) A fs := SlS.mono hA' (fun b h _ => h)
  clear hA'
  have law : Keyed Try.prog 23 := int_keyed Try.underlying23
  have b0 : Below w.heap.size w (w.alloc (.cells #[.slice A fs.length a, .int .u64 (next : Int), .int .u64 (seq : Int)] 30)) := (Below.refl _ _).alloc (Nat.le_refl _) _
  have k0 := Blk.new w 30 #[.slice A fs.length a, .int .u64 (next : Int), .int .u64 (seq : Int)]
  have hmm := @run_makeMap Try.prog
  go_enter Try.func9, Try.ntmps9
  go_upto_region 1 with fail
  generalize Value.agg #[.slice A fs.length a, .int .u64 (next : Int), .int .u64 (seq : Int)] = av
  generalize (w.alloc (.cells #[.slice A fs.length a, .int .u64 (next : Int), .int .u64 (seq : Int)] 30)) = W at *
  have dm : Below W.heap.size W (W.alloc (.map #[] 0)) := (Below.refl _ _).alloc (Nat.le_refl _) _
  have hM0 : (W.alloc (.map #[] 0)).ownsMap (H := Nat) Try.prog 23 (plainElem Try.prog 3) W.heap.size 0 (.map []) := World.ownsMap_made _ _ _ _
  have k1 := k0.below dm k0.lt
  have bm := b0.trans (dm.mono b0.size)
  have z0 := b0.size
  have x0 : (W.alloc (.map #[] 0)).cell? ⟨w.heap.size, 0, none⟩ = some (.slice A fs.length a) := k1.cell 0
  have lk := k0.lt
  clear k0 b0 dm
  go_wp2_with fail
  clear x0 hmm
  generalize W.alloc (.map #[] 0) = W2 at *
  go_loopw [4, 5, 10] (fun _ _ i wr => ∃ (k : Nat) (D : DataW Nat), k ≤ fs.length ∧ i = .int .i64 (k : Int) ∧ wr.ownsMap Try.prog 23 (plainElem Try.prog 3) W.heap.size k D ∧ size D = k ∧ (k = 0 → D = .map []) ∧ (fs.take k).all (fun f => okF f next) = true ∧ Blk wr w.heap.size 30 #[.slice A fs.length a, .int .u64 (next : Int), .int .u64 (seq : Int)] ∧ Below w.heap.size w wr) (fun _ _ i _ => fs.length - (intOf i).toNat)
  case atStart => exact ⟨0, .map [], Nat.zero_le _, rfl, hM0, rfl, fun _ => rfl, rfl, k1, bm⟩
  case round =>
    clear hM0 k1 bm
    obtain ⟨k, D, hk, rfl, hown, hsz, hD0, hall, kV, br⟩ := hrel
    have x0 : wr.cell? ⟨w.heap.size, 0, none⟩ = some (.slice A fs.length a) := kV.cell 0
    by_cases hlt : k < fs.length
    · have hlt' : (k : Int) < (fs.length : Int) := by omega
      obtain rfl : k = 0 := by omega
      obtain rfl : D = .map [] := hD0 rfl
      clear hD0 hsz hall hk
      obtain ⟨ad, P, p, Q, q, rfl, hab, y0, y1, y2, y3, y4, y5, hf1, hf2, hwf⟩ := FE.at_ (hA.below br) hlt
      have HR : Hid (right1 fs next = okF fs[0] next) := right1_one h1 hlt
      generalize fs[0] = f at *
      simp only [Nat.zero_mul, add_zero_] at y0 y1 y2 y3 y4 y5
      have dz : Below wr.heap.size wr (wr.alloc (.cells #[.slice P f.first.length p, .slice Q f.last.length q, .int .i64 f.count, .int .i64 f.size, .int .u64 (f.num : Int), .int .i64 f.level] 66)) := (Below.refl _ _).alloc (Nat.le_refl _) _
      have kF := Blk.new wr 66 #[.slice P f.first.length p, .slice Q f.last.length q, .int .i64 f.count, .int .i64 f.size, .int .u64 (f.num : Int), .int .i64 f.level]
      have hownX := hown.alloc (.cells #[.slice P f.first.length p, .slice Q f.last.length q, .int .i64 f.count, .int .i64 f.size, .int .u64 (f.num : Int), .int .i64 f.level] 66)
      have hP := hf1.1.below dz
      have hf1s := hf1.2.1
      have hf2s := hf2.2.1
      have hQ := hf2.1.below dz
      have kVx := kV.below dz kV.lt
      have bx := br.trans (dz.mono br.size)
      have zx := br.size
      have hwl := hown.lt
      clear x0
      go_upto_region 5 with fail
      clear y0 y1 y2 y3 y4 y5 kV br hown hf1 hf2
      generalize (wr.alloc (.cells #[.slice P f.first.length p, .slice Q f.last.length q, .int .i64 f.count, .int .i64 f.size, .int .u64 (f.num : Int), .int .i64 f.level] 66)) = X at *
      have x4 : X.cell? ⟨wr.heap.size, 4, none⟩ = some (.int .u64 (f.num : Int)) := kF.cell 4
      obtain ⟨hu, hl1, _, _⟩ := hwf
      have hnw : (Lit.int .u64 (f.num : Int)).wf = true := wf_u64 hu
      have hkey : keyOf Try.prog 23 (.int .u64 (f.num : Int)) = some (.int .u64 (f.num : Int)) := keyOf_int_mk Try.underlying23 hnw
      go_upto_region 6 with (first
        | (at_lookup; refine wpList_lookup_own_int _ rfl _ _ 73 rfl 23 3 .i64 law Try.underlying73 Try.underlying3 (zeroI _) W.heap.size 0 _ rfl hownX _ _ rfl hkey ?_; intro c hat hwc; obtain rfl : c = 0 := zero_of_nil hat; clear hat hwc)
        | (at_mapUpdate; refine wpList_mapUpdate_own _ rfl _ _ _ 73 rfl 23 3 law Try.underlying73 _ W.heap.size 0 _ rfl hownX (by unfold maxLen; omega) _ _ _ rfl rfl hkey _ [] (plainElem_int Try.underlying3 (by decide)) ?_; intro w9 hown9 hg9))
      have hs9 := size_one (d := .lit (.int .i64 1)) (World.ownsMap.tidy hownX law) (k := .int .u64 (f.num : Int))
      have kF9 := kF.grown hg9 (fun e => by have := Option.some.inj e; omega)
      have kV9 := kVx.grown hg9 (fun e => by have := Option.some.inj e; omega)
      have b9 := bx.grown hg9 bx.size (fun j e => by have := Option.some.inj e; omega)
      have hP9 := hP.grown hg9 (fun ad e hn e2 => by have h3 : ad.block < w.heap.size := hf1s ad e hn; have := Option.some.inj e2; omega)
      have hQ9 := hQ.grown hg9 (fun ad e hn e2 => by have h3 : ad.block < w.heap.size := hf2s ad e hn; have := Option.some.inj e2; omega)
      clear kF kVx bx hP hQ hownX hg9 hf1s hf2s
      have x2 : w9.cell? ⟨wr.heap.size, 5, none⟩ = some (.int .i64 f.level) := kF9.cell 5
      have x0 : w9.cell? ⟨wr.heap.size, 0, none⟩ = some (.slice P f.first.length p) := kF9.cell 0
      have x1 : w9.cell? ⟨wr.heap.size, 1, none⟩ = some (.slice Q f.last.length q) := kF9.cell 1
      have x4 : w9.cell? ⟨wr.heap.size, 4, none⟩ = some (.int .u64 (f.num : Int)) := kF9.cell 4
      have xn : w9.cell? ⟨w.heap.size, 1, none⟩ = some (.int .u64 (next : Int)) := kV9.cell 1
      try dsimp only
      by_cases c1 : f.level < 0
      · have HE : Hid (right1 fs next = false) := by show _ = _; rw [HR.out]; unfold okF; rw [decide_eq_false (by omega)]; rfl
        clear HR
        go_wp2_with fail
        go_ret
        exact ⟨by rw [HE.out]; rfl, b9⟩
      have c1' : ¬ f.level < 0 := c1
      by_cases c2 : 4 ≤ f.level
      · have HE : Hid (right1 fs next = false) := by show _ = _; rw [HR.out]; unfold okF; rw [decide_eq_true (show 0 ≤ f.level by omega), decide_eq_false (show ¬ f.level < 4 by omega)]; rfl
        clear HR
        go_wp2_with fail
        go_ret
        exact ⟨by rw [HE.out]; rfl, b9⟩
      have T := ccmp_any P Q f.first f.last p q w9 hP9 hQ9
      have HR2 : Hid (right1 fs next = (decide (cmpL f.first f.last ≤ 0) && decide (f.num < next))) := by show _ = _; rw [HR.out]; unfold okF; rw [decide_eq_true (show 0 ≤ f.level by omega), decide_eq_true (show f.level < 4 by omega)]; rfl
      clear HR
      generalize cmpL f.first f.last = cv at *
      go_wp2_with fail
      refine T.mono ?_
      clear T
      rintro en w_ ⟨rfl, hw9⟩
      subst hw9
      by_cases c3 : 0 < cv
      · have HE : Hid (right1 fs next = false) := by show _ = _; rw [HR2.out, decide_eq_false (by omega)]; rfl
        clear HR2
        go_wp2_with fail
        go_ret
        exact ⟨by rw [HE.out]; rfl, b9⟩
      by_cases c4 : (next : Int) ≤ (f.num : Int)
      · have HE : Hid (right1 fs next = false) := by show _ = _; rw [HR2.out, decide_eq_true (by omega), decide_eq_false (by omega)]; rfl
        clear HR2
        go_wp2_with fail
        go_ret
        exact ⟨by rw [HE.out]; rfl, b9⟩
      have HE : Hid (right1 fs next = true) := by show _ = _; rw [HR2.out, decide_eq_true (by omega), decide_eq_true (by omega)]; rfl
      clear HR2
      go_wp2_with fail
      go_quiet (fail)
      go_wp2_with fail
      have hall1 : (fs.take 1).all (fun f => okF f next) = true := by rw [List.take_of_length_le (by omega)]; exact HE.out
      go_roundw
      case rel => exact ⟨1, _, by omega, by simp, ownsMapDrewN hown9 nq, hs9, fun h => absurd h (by decide), hall1, kV9.drewN nq, below_drewN b9 nq⟩
      case measure => simp [intOf]; omega
    · have hlt' : ¬ (k : Int) < (fs.length : Int) := by omega
      obtain rfl : k = fs.length := by omega
      have HE : Hid (right1 fs next = true) := by rw [List.take_length] at hall; exact hall
      clear hall hD0
      go_wp2_with (at_len; refine wpList_len_own _ rfl _ 73 rfl 23 3 Try.underlying73 _ W.heap.size fs.length D rfl hown ?_)
      go_ret
      exact ⟨by rw [HE.out]; rfl, br⟩
end Go.Proofs.Ytmgibpedclngpaa
