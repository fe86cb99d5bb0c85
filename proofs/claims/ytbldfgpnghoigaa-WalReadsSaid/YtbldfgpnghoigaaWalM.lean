/- A log's last segment, fresh, Sync, Rotate. (Printed by wip/gen_walm.py.) -/
import Derived.Test.YtbldfgpnghoigaaWalL
import Derived.Test.YtbldfgpnghoigaaHeldK
namespace Go.Proofs.Ytbldfgpnghoigaa
open Go.RowKit

def lastW (sg : List Nat) : Nat := sg.getD (sg.length - 1) 0
def freshW (l : LLog) (sg : List Nat) : Bool := decide (sg = []) || (decide (l.most ≤ l.size) || (l.rot && decide (lastW sg < l.next)))
def syncW (l : LLog) (sg : List Nat) (d : LDisk) (ps : List PFile) : Int × LDisk × List PFile := if sg = [] then (0, d, ps) else syncP d ps (nameW l.pre (lastW sg))
/-- a disk's call behind a log's -/
def RetLD (g : Nat) (F : Nat → Prop) (l : LLog) (sg : List Nat) (r : Int × LDisk × List PFile) (w : World) (en : Ending) (w' : World) : Prop :=
  en = .returned (.int .i64 r.1) ∧ LDTo g F l sg r.2.1 r.2.2 w w'
section
variable {w w' w3 : World} {g : Nat} {F : Nat → Prop} {l l' : LLog} {sg : List Nat} {d d' : LDisk} {ps ps' : List PFile} {A : Option Addr} {c : Nat}
theorem LD.dd (hk : Blk w g 77 (logC (.slice A sg.length c) l)) (hs : SegAt w (.slice A sg.length c) sg) (hF : ∀ x, F x → x ≠ g ∧ (Value.slice A sg.length c).ownBlock ≠ some x) (hp : l.pre.length ≤ 1048576)
    (b3 : BlP (fun x => F x ∨ x = g ∨ (Value.slice A sg.length c).ownBlock = some x) w w3) (h : DDTo l.disk (fun x => (F x ∨ x = g ∨ (Value.slice A sg.length c).ownBlock = some x) ∨ w.heap.size ≤ x) d' ps' w3 w') : LDTo g F l sg d' ps' w w' := by
  have b4 := b3.trans ⟨h.2.os, h.2.tape, h.2.output, h.2.size, fun k hk hb => h.2.block k hk (.inl hb)⟩
  have z := b3.size
  refine ⟨⟨A, c, b4.blk hk (.inr (.inl rfl)), hs.blp b4 (fun x e => .inr (.inr e)), h.1.mono fun x hx => ?_, fun x hx => hF x hx.1, hp⟩, ⟨b4.os, b4.tape, b4.output, b4.size, fun k hk hb => b4.block k hk (.inl hb)⟩⟩
  rcases hx with hx | hx | hx
  · exact ⟨.inl (.inl hx.1), by omega⟩
  · exact ⟨.inl (.inr (.inl hx)), by have := hk.lt; omega⟩
  · exact ⟨.inl (.inr (.inr hx)), by have := hs.lt hx; omega⟩
/-- a cell of the log turns -/
theorem LD.store (h : LD w g F l sg d ps) (k : Nat) (u : Value) (hu : ∀ S, (logC S l).setIfInBounds k u = logC S l') (hp : l'.pre = l.pre) (hd : l'.disk = l.disk) (hg : ¬ F g) : LDTo g F l' sg d ps w (w.setCell ⟨g, k, none⟩ u) := by
  obtain ⟨A, c, h1, h2, h3, h4, h5⟩ := h
  have hsg : (Value.slice A sg.length c).ownBlock ≠ some g := fun e => by
    rcases h2.2 with ⟨e', _⟩ | ⟨g', k, cap, cur, e', hb, _⟩
    · rw [e'] at e; cases e
    · rw [e'] at e
      obtain rfl : g' = g := Option.some.inj e
      exact h1.ne_ hb (by decide) rfl
  have hb : BlP (fun x => x ≠ g) w (w.setCell ⟨g, k, none⟩ u) := (BlP.refl _ _).setCell (fun h => h rfl) u
  have d3 := h3.blp hb fun x _ hx => .inr (.inl (Classical.byContradiction hx))
  rw [← hd] at d3
  refine ⟨⟨A, c, ?_, h2.setCell hsg u, d3.mono fun x hx => ?_, fun x hx => h4 x hx.1, by rw [hp]; exact h5⟩, ⟨hb.os, hb.tape, hb.output, hb.size, fun x hx hf => hb.block x hx fun e => hg (e ▸ hf)⟩⟩
  · rw [← hu]; exact h1.set_ k u
  · rcases hx with hx | hx
    · exact .inl (.inl hx.1)
    · exact .inl (.inr hx)
end
set_option maxRecDepth 100000 in
set_option maxHeartbeats 2000000 in
theorem last_any (g : Nat) (l : LLog) (sg : List Nat) (A : Option Addr) (c : Nat) (w : World) (hk : Blk w g 77 (logC (.slice A sg.length c) l)) (hs : SegAt w (.slice A sg.length c) sg) (hn : sg ≠ []) (hl : sg.length ≤ 1048576) :
    Calls Try.prog 40 #[.pointer (some ⟨g, 0, none⟩)] w (fun en w' => en = .returned (.agg #[.int .u64 (lastW sg : Int)]) ∧ Below w.heap.size w w') := by
  obtain ⟨k, hkk⟩ : ∃ k, sg.length = k + 1 := ⟨sg.length - 1, by have := List.length_pos_iff.2 hn; omega⟩
  have e0 : ∃ ad, A = some ad ∧ ∀ W, Below w.heap.size w W → W.cell? (ad.add k) = some (.int .u64 (lastW sg : Int)) := by
    obtain ⟨ad, rfl, _⟩ := hs.at_ (i := k) (by omega)
    refine ⟨ad, rfl, fun W hW => ?_⟩
    obtain ⟨ad', e, hc⟩ := (hs.below hW).at_ (i := k) (by omega)
    obtain rfl := Option.some.inj e
    rw [hc]
    unfold lastW
    rw [show sg.length - 1 = k by omega, List.getD_eq_getElem?_getD, List.getElem?_eq_getElem (by omega)]
    rfl
  obtain ⟨ad, rfl, E0⟩ := e0
  generalize lastW sg = n at *
  have s1 : (sg.length : Int) - 1 = (k : Int) := by omega
  have s2 : (k : Int) < (sg.length : Int) := by omega
  have s3 : IntKind.i64.wrap (k : Int) = (k : Int) := by simp [IntKind.wrap, IntKind.bits, IntKind.signed]; omega
  have b1 : Below w.heap.size w (w.alloc (.cells #[.int .u64 0] 82)) := (Below.refl _ _).alloc (Nat.le_refl _) _
  have kN := Blk.new w 82 #[.int .u64 0]
  have HKK := Lib.hid hkk
  have HE := Lib.hid E0
  have HNE := Lib.hid hn
  clear E0 hkk hn hs
  go_enter Try.func40, Try.ntmps40
  go_upto_region 1 with fail
  generalize (w.alloc (.cells #[.int .u64 0] 82)) = w1 at *
  generalize sg.length = m at *
  refine wp_region_noPanic ?_
  have kS : Below w.heap.size w w1.drew := b1.drew
  refine wp_region_heldK (fun Y => Below w.heap.size w Y) 12 (by kernel_rfl) kS (fun hH => ?_)
  have kD : Blk w1.drew w.heap.size 82 #[.int .u64 0] := kN.drew
  clear kN
  generalize w1.drew = w2 at *
  refine wpAnyK_take (i := 0) (v := ?_) rfl (by kernel_rfl) (by kernel_rfl) (by kernel_rfl) (by kernel_rfl) (fun _ _ _ h => h) (Or.inl ⟨by rfl, ?_⟩) hH ?_
  case refine_2 => intro w hSw; go_simp; try with_reducible rfl
  try simp only [Z1, Z2, Z4, Z5, Z6, Z7]
  refine wpAnyK_take (i := 1) (v := ?_) rfl (by kernel_rfl) (by kernel_rfl) (by kernel_rfl) (by kernel_rfl) (fun _ _ _ h => h) (Or.inl ⟨by rfl, ?_⟩) hH ?_
  case refine_2 => intro w hSw; go_simp; try with_reducible rfl
  try simp only [Z1, Z2, Z3, Z4, Z5, Z6, Z7]
  refine wpAnyK_take (i := 2) (v := ?_) rfl (by kernel_rfl) (by kernel_rfl) (by kernel_rfl) (by kernel_rfl) (fun _ _ _ h => h) (Or.inl ⟨by rfl, ?_⟩) hH ?_
  case refine_2 => intro w hSw; go_simp; try with_reducible rfl
  try simp only [Z1, Z2, Z3, Z4, Z5, Z6, Z7]
  refine wpAnyK_take (i := 3) (v := ?_) rfl (by kernel_rfl) (by kernel_rfl) (by kernel_rfl) (by kernel_rfl) (fun _ _ _ h => h) (Or.inl ⟨by rfl, ?_⟩) hH ?_
  case refine_2 => intro w hSw; have h1 : Blk w g 77 (logC (.slice (some ad) m c) l) := hk.below hSw hk.lt; have n3 : w.cell? ⟨_, 3, none⟩ = some (.slice (some ad) m c) := Blk.cell h1 3; clear h1 hSw; go_simp; try with_reducible rfl
  try simp only [Z1, Z2, Z3, Z4, Z5, Z6, Z7]
  refine wpAnyK_take (i := 4) (v := ?_) rfl (by kernel_rfl) (by kernel_rfl) (by kernel_rfl) (by kernel_rfl) (fun _ _ _ h => h) (Or.inl ⟨by rfl, ?_⟩) hH ?_
  case refine_2 => intro w hSw; go_simp; try with_reducible rfl
  try simp only [Z1, Z2, Z3, Z4, Z5, Z6, Z7]
  refine wpAnyK_take (i := 5) (v := ?_) rfl (by kernel_rfl) (by kernel_rfl) (by kernel_rfl) (by kernel_rfl) (fun _ _ _ h => h) (Or.inl ⟨by rfl, ?_⟩) hH ?_
  case refine_2 => intro w hSw; go_simp; try with_reducible rfl
  try simp only [Z1, Z2, Z3, Z4, Z5, Z6, Z7]
  refine wpAnyK_take (i := 6) (v := ?_) rfl (by kernel_rfl) (by kernel_rfl) (by kernel_rfl) (by kernel_rfl) (fun _ _ _ h => h) (Or.inl ⟨by rfl, ?_⟩) hH ?_
  case refine_2 => intro w hSw; go_simp; try with_reducible rfl
  try simp only [Z1, Z2, Z3, Z4, Z5, Z6, Z7]
  refine wpAnyK_take (i := 7) (v := ?_) rfl (by kernel_rfl) (by kernel_rfl) (by kernel_rfl) (by kernel_rfl) (fun _ _ _ h => h) (Or.inl ⟨by rfl, ?_⟩) hH ?_
  case refine_2 => intro w hSw; have h1 : Blk w g 77 (logC (.slice (some ad) m c) l) := hk.below hSw hk.lt; have n3 : w.cell? ⟨_, 3, none⟩ = some (.slice (some ad) m c) := Blk.cell h1 3; clear h1 hSw; go_simp; try with_reducible rfl
  try simp only [Z1, Z2, Z3, Z4, Z5, Z6, Z7]
  refine wpAnyK_take (i := 8) (v := ?_) rfl (by kernel_rfl) (by kernel_rfl) (by kernel_rfl) (by kernel_rfl) (fun _ _ _ h => h) (Or.inl ⟨by rfl, ?_⟩) hH ?_
  case refine_2 => intro w hSw; go_simp; try with_reducible rfl
  try simp only [Z1, Z2, Z3, Z4, Z5, Z6, Z7]
  refine wpAnyK_take (i := 9) (v := ?_) rfl (by kernel_rfl) (by kernel_rfl) (by kernel_rfl) (by kernel_rfl) (fun _ _ _ h => h) (Or.inl ⟨by rfl, ?_⟩) hH ?_
  case refine_2 => intro w hSw; go_simp; try with_reducible rfl
  try simp only [Z1, Z2, Z3, Z4, Z5, Z6, Z7]
  refine wpAnyK_take (i := 10) (v := ?_) rfl (by kernel_rfl) (by kernel_rfl) (by kernel_rfl) (by kernel_rfl) (fun _ _ _ h => h) (Or.inl ⟨by rfl, ?_⟩) hH ?_
  case refine_2 => intro w hSw; go_simp; try with_reducible rfl
  try simp only [Z1, Z2, Z3, Z4, Z5, Z6, Z7]
  refine wpAnyK_take (i := 11) (v := ?_) rfl (by kernel_rfl) (by kernel_rfl) (by kernel_rfl) (by kernel_rfl) (fun _ _ _ h => h) (Or.inl ⟨by rfl, ?_⟩) hH ?_
  case refine_2 => intro w hSw; have hc := HE.out w hSw; clear hSw; go_simp; try with_reducible rfl
  try simp only [Z1, Z2, Z3, Z4, Z5, Z6, Z7]
  refine wpAnyK_ready (rs := [12]) (by kernel_rfl) (by simp) ?_
  refine AllReadyK.turn rfl (fun K hK => ?_) AllReadyK.nil
  have y : w2.cell? ⟨w.heap.size, 0, none⟩ = some (.int .u64 0) := kD.cell 0
  have f : w2.frozen? ⟨w.heap.size, 0, none⟩ = false := kD.frozen 0
  go_simp
  clear y f
  refine hK.out _ _ ?_
  clear hK K hH
  try simp only [Z1, Z3, Z2, Z4]
  refine wpAny_done (by kernel_rfl) ?_ _
  refine NoPanic.normal ?_
  have k9 := kD.set_ 0 (.int .u64 (n : Int))
  have b9 : Below w.heap.size w (w2.setCell ⟨w.heap.size, 0, none⟩ (.int .u64 (n : Int))) := kS.setCell (Nat.le_refl _) _
  generalize (w2.setCell ⟨w.heap.size, 0, none⟩ (.int .u64 (n : Int))) = w9 at *
  replace k9 : Blk w9 w.heap.size 82 #[.int .u64 (n : Int)] := k9
  go_wp2_with fail
  exact bodyPost_ret (results_cell rfl rfl k9 Try.underlying82 rfl (by kernel_rfl)) rfl ⟨rfl, b9⟩
set_option maxRecDepth 100000 in
set_option maxHeartbeats 4000000 in
theorem fresh_any (g : Nat) (l : LLog) (sg : List Nat) (A : Option Addr) (c : Nat) (w : World) (hk : Blk w g 77 (logC (.slice A sg.length c) l)) (hs : SegAt w (.slice A sg.length c) sg) (hl : sg.length ≤ 1048576) :
    Calls Try.prog 39 #[.pointer (some ⟨g, 0, none⟩)] w (fun en w' => en = .returned (.bool (freshW l sg)) ∧ Below w.heap.size w w') := by
  have kS : Below w.heap.size w w.drew := (Below.refl _ _).drew
  by_cases hn : sg = []
  · have HR : Hid (freshW l sg = true) := by show _ = _; unfold freshW; rw [hn]; rfl
    have hb : ((0 : Int) == 0) = true := rfl
    have hm0 : sg.length = 0 := by rw [hn]; rfl
    generalize freshW l sg = fr at *
    generalize sg.length = m at *
    subst hm0
    clear hs hn
    go_enter Try.func39, Try.ntmps39
    go_upto_region 1 with fail
    refine wp_region_noPanic ?_
    refine wp_region_held_drew (S := fun Y => Below w.heap.size w Y) (by kernel_rfl) kS (fun hH => ?_)
    have bd := kS
    generalize w.drew = w2 at *
    refine wpAnyH_take (i := 0) (v := ?_) rfl (by kernel_rfl) (by kernel_rfl) (by kernel_rfl) (fun _ _ _ h => h) (Or.inl ⟨by rfl, ?_⟩) hH ?_
    case refine_2 => intro w hSw; go_simp; try with_reducible rfl
    try simp only [Z1, Z2, Z4, Z5, Z6, Z7]
    refine wpAnyH_take (i := 1) (v := ?_) rfl (by kernel_rfl) (by kernel_rfl) (by kernel_rfl) (fun _ _ _ h => h) (Or.inl ⟨by rfl, ?_⟩) hH ?_
    case refine_2 => intro w hSw; go_simp; try with_reducible rfl
    try simp only [Z1, Z2, Z3, Z4, Z5, Z6, Z7]
    refine wpAnyH_take (i := 2) (v := ?_) rfl (by kernel_rfl) (by kernel_rfl) (by kernel_rfl) (fun _ _ _ h => h) (Or.inl ⟨by rfl, ?_⟩) hH ?_
    case refine_2 => intro w hSw; go_simp; try with_reducible rfl
    try simp only [Z1, Z2, Z3, Z4, Z5, Z6, Z7]
    refine wpAnyH_take (i := 3) (v := ?_) rfl (by kernel_rfl) (by kernel_rfl) (by kernel_rfl) (fun _ _ _ h => h) (Or.inl ⟨by rfl, ?_⟩) hH ?_
    case refine_2 => intro w hSw; have h1 : Blk w g 77 (logC (.slice A 0 c) l) := hk.below hSw hk.lt; have n3 : w.cell? ⟨_, 3, none⟩ = some (.slice A 0 c) := Blk.cell h1 3; clear h1 hSw; go_simp; try with_reducible rfl
    try simp only [Z1, Z2, Z3, Z4, Z5, Z6, Z7]
    refine wpAnyH_take (i := 4) (v := ?_) rfl (by kernel_rfl) (by kernel_rfl) (by kernel_rfl) (fun _ _ _ h => h) (Or.inl ⟨by rfl, ?_⟩) hH ?_
    case refine_2 => intro w hSw; go_simp; try with_reducible rfl
    try simp only [Z1, Z2, Z3, Z4, Z5, Z6, Z7]
    refine wpAnyH_take (i := 5) (v := ?_) rfl (by kernel_rfl) (by kernel_rfl) (by kernel_rfl) (fun _ _ _ h => h) (Or.inl ⟨by rfl, ?_⟩) hH ?_
    case refine_2 => intro w hSw; go_simp; try with_reducible rfl
    try simp only [Z1, Z2, Z3, Z4, Z5, Z6, Z7]
    refine wpAnyH_take (i := 6) (v := ?_) rfl (by kernel_rfl) (by kernel_rfl) (by kernel_rfl) (fun _ _ _ h => h) (Or.inl ⟨by rfl, ?_⟩) hH ?_
    case refine_2 => intro w hSw; go_simp; try with_reducible rfl
    try simp only [Z1, Z2, Z3, Z4, Z5, Z6, Z7]
    refine wpAnyH_take (i := 7) (v := undef) rfl (by kernel_rfl) (by kernel_rfl) (by kernel_rfl) (fun _ _ _ h => h) (Or.inr ⟨by rfl, rfl⟩) hH ?_
    try simp only [Z1, Z2, Z3, Z4, Z5, Z6, Z7]
    refine wpAnyH_take (i := 8) (v := undef) rfl (by kernel_rfl) (by kernel_rfl) (by kernel_rfl) (fun _ _ _ h => h) (Or.inr ⟨by rfl, rfl⟩) hH ?_
    try simp only [Z1, Z2, Z3, Z4, Z5, Z6, Z7]
    refine wpAnyH_take (i := 9) (v := undef) rfl (by kernel_rfl) (by kernel_rfl) (by kernel_rfl) (fun _ _ _ h => h) (Or.inr ⟨by rfl, rfl⟩) hH ?_
    try simp only [Z1, Z2, Z3, Z4, Z5, Z6, Z7]
    refine wpAnyH_take (i := 10) (v := undef) rfl (by kernel_rfl) (by kernel_rfl) (by kernel_rfl) (fun _ _ _ h => h) (Or.inr ⟨by rfl, rfl⟩) hH ?_
    try simp only [Z1, Z2, Z3, Z4, Z5, Z6, Z7]
    refine wpAnyH_take (i := 11) (v := undef) rfl (by kernel_rfl) (by kernel_rfl) (by kernel_rfl) (fun _ _ _ h => h) (Or.inr ⟨by rfl, rfl⟩) hH ?_
    try simp only [Z1, Z2, Z3, Z4, Z5, Z6, Z7]
    refine wpAnyH_take (i := 12) (v := undef) rfl (by kernel_rfl) (by kernel_rfl) (by kernel_rfl) (fun _ _ _ h => h) (Or.inr ⟨by rfl, rfl⟩) hH ?_
    try simp only [Z1, Z2, Z3, Z4, Z5, Z6, Z7]
    refine wpAnyH_take (i := 13) (v := undef) rfl (by kernel_rfl) (by kernel_rfl) (by kernel_rfl) (fun _ _ _ h => h) (Or.inr ⟨by rfl, rfl⟩) hH ?_
    try simp only [Z1, Z2, Z3, Z4, Z5, Z6, Z7]
    refine wpAnyH_take (i := 14) (v := undef) rfl (by kernel_rfl) (by kernel_rfl) (by kernel_rfl) (fun _ _ _ h => h) (Or.inr ⟨by rfl, rfl⟩) hH ?_
    try simp only [Z1, Z2, Z3, Z4, Z5, Z6, Z7]
    refine wpAnyH_take (i := 15) (v := undef) rfl (by kernel_rfl) (by kernel_rfl) (by kernel_rfl) (fun _ _ _ h => h) (Or.inr ⟨by rfl, rfl⟩) hH ?_
    try simp only [Z1, Z2, Z3, Z4, Z5, Z6, Z7]
    refine wpAnyH_take (i := 16) (v := ?_) rfl (by kernel_rfl) (by kernel_rfl) (by kernel_rfl) (fun _ _ _ h => h) (Or.inl ⟨by rfl, ?_⟩) hH ?_
    case refine_2 => intro w hSw; go_simp; try with_reducible rfl
    try simp only [Z1, Z2, Z3, Z4, Z5, Z6, Z7]
    refine wpAnyH_take (i := 17) (v := ?_) rfl (by kernel_rfl) (by kernel_rfl) (by kernel_rfl) (fun _ _ _ h => h) (Or.inl ⟨by rfl, ?_⟩) hH ?_
    case refine_2 => intro w hSw; go_simp; try with_reducible rfl
    try simp only [Z1, Z2, Z3, Z4, Z5, Z6, Z7]
    refine wpAnyH_take (i := 18) (v := undef) rfl (by kernel_rfl) (by kernel_rfl) (by kernel_rfl) (fun _ _ _ h => h) (Or.inr ⟨by rfl, rfl⟩) hH ?_
    try simp only [Z1, Z2, Z3, Z4, Z5, Z6, Z7]
    refine wpAnyH_take (i := 19) (v := undef) rfl (by kernel_rfl) (by kernel_rfl) (by kernel_rfl) (fun _ _ _ h => h) (Or.inr ⟨by rfl, rfl⟩) hH ?_
    try simp only [Z1, Z2, Z3, Z4, Z5, Z6, Z7]
    refine wpAnyH_take (i := 20) (v := undef) rfl (by kernel_rfl) (by kernel_rfl) (by kernel_rfl) (fun _ _ _ h => h) (Or.inr ⟨by rfl, rfl⟩) hH ?_
    try simp only [Z1, Z2, Z3, Z4, Z5, Z6, Z7]
    refine wpAnyH_take (i := 21) (v := undef) rfl (by kernel_rfl) (by kernel_rfl) (by kernel_rfl) (fun _ _ _ h => h) (Or.inr ⟨by rfl, rfl⟩) hH ?_
    try simp only [Z1, Z2, Z3, Z4, Z5, Z6, Z7]
    refine wpAnyH_take (i := 22) (v := undef) rfl (by kernel_rfl) (by kernel_rfl) (by kernel_rfl) (fun _ _ _ h => h) (Or.inr ⟨by rfl, rfl⟩) hH ?_
    try simp only [Z1, Z2, Z3, Z4, Z5, Z6, Z7]
    refine wpAnyH_take (i := 23) (v := undef) rfl (by kernel_rfl) (by kernel_rfl) (by kernel_rfl) (fun _ _ _ h => h) (Or.inr ⟨by rfl, rfl⟩) hH ?_
    try simp only [Z1, Z2, Z3, Z4, Z5, Z6, Z7]
    refine wpAnyH_take (i := 24) (v := undef) rfl (by kernel_rfl) (by kernel_rfl) (by kernel_rfl) (fun _ _ _ h => h) (Or.inr ⟨by rfl, rfl⟩) hH ?_
    try simp only [Z1, Z2, Z3, Z4, Z5, Z6, Z7]
    refine wpAnyH_take (i := 25) (v := undef) rfl (by kernel_rfl) (by kernel_rfl) (by kernel_rfl) (fun _ _ _ h => h) (Or.inr ⟨by rfl, rfl⟩) hH ?_
    try simp only [Z1, Z2, Z3, Z4, Z5, Z6, Z7]
    refine wpAnyH_take (i := 26) (v := undef) rfl (by kernel_rfl) (by kernel_rfl) (by kernel_rfl) (fun _ _ _ h => h) (Or.inr ⟨by rfl, rfl⟩) hH ?_
    try simp only [Z1, Z2, Z3, Z4, Z5, Z6, Z7]
    refine wpAnyH_take (i := 27) (v := undef) rfl (by kernel_rfl) (by kernel_rfl) (by kernel_rfl) (fun _ _ _ h => h) (Or.inr ⟨by rfl, rfl⟩) hH ?_
    try simp only [Z1, Z2, Z3, Z4, Z5, Z6, Z7]
    refine wpAnyH_take (i := 28) (v := undef) rfl (by kernel_rfl) (by kernel_rfl) (by kernel_rfl) (fun _ _ _ h => h) (Or.inr ⟨by rfl, rfl⟩) hH ?_
    try simp only [Z1, Z2, Z3, Z4, Z5, Z6, Z7]
    refine wpAnyH_take (i := 29) (v := undef) rfl (by kernel_rfl) (by kernel_rfl) (by kernel_rfl) (fun _ _ _ h => h) (Or.inr ⟨by rfl, rfl⟩) hH ?_
    try simp only [Z1, Z2, Z3, Z4, Z5, Z6, Z7]
    refine wpAnyH_take (i := 30) (v := undef) rfl (by kernel_rfl) (by kernel_rfl) (by kernel_rfl) (fun _ _ _ h => h) (Or.inr ⟨by rfl, rfl⟩) hH ?_
    try simp only [Z1, Z2, Z3, Z4, Z5, Z6, Z7]
    refine wpAnyH_take (i := 31) (v := undef) rfl (by kernel_rfl) (by kernel_rfl) (by kernel_rfl) (fun _ _ _ h => h) (Or.inr ⟨by rfl, rfl⟩) hH ?_
    try simp only [Z1, Z2, Z3, Z4, Z5, Z6, Z7]
    refine wpAnyH_take (i := 32) (v := ?_) rfl (by kernel_rfl) (by kernel_rfl) (by kernel_rfl) (fun _ _ _ h => h) (Or.inl ⟨by rfl, ?_⟩) hH ?_
    case refine_2 => intro w hSw; go_simp; try with_reducible rfl
    try simp only [Z1, Z2, Z3, Z4, Z5, Z6, Z7]
    refine wpAnyH_take (i := 33) (v := ?_) rfl (by kernel_rfl) (by kernel_rfl) (by kernel_rfl) (fun _ _ _ h => h) (Or.inl ⟨by rfl, ?_⟩) hH ?_
    case refine_2 => intro w hSw; go_simp; try with_reducible rfl
    try simp only [Z1, Z2, Z3, Z4, Z5, Z6, Z7]
    refine wpAnyH_done (by kernel_rfl) ?_ _
    refine NoPanic.normal ?_
    go_wp2_with fail
    go_ret
    exact ⟨congrArg (fun b => Ending.returned (.bool b)) HR.out.symm, bd⟩
  have hpos : 0 < sg.length := List.length_pos_iff.2 hn
  have hb : ((sg.length : Int) == 0) = false := by rw [beq_eq_false_iff_ne]; omega
  have T := Lib.hid (fun (W : World) (hW : Below w.heap.size w W) => last_any g l sg A c W (hk.below hW hk.lt) (hs.below hW) hn hl)
  have hfr : freshW l sg = (decide (l.most ≤ l.size) || (l.rot && decide (lastW sg < l.next))) := by
    unfold freshW
    rw [decide_eq_false hn, Bool.false_or]
  generalize freshW l sg = fr at *
  generalize lastW sg = n at *
  have HNE := Lib.hid hn
  clear hn hs
  generalize sg.length = m at *
  by_cases h2 : l.most ≤ l.size
  · have HR : Hid (fr = true) := by show _ = _; rw [hfr, decide_eq_true h2]; rfl
    clear hfr T
    have bd := kS
    go_enter Try.func39, Try.ntmps39
    go_upto_region 1 with fail
    refine wp_region_noPanic ?_
    refine wp_region_held_drew (S := fun Y => Below w.heap.size w Y) (by kernel_rfl) kS (fun hH => ?_)
    generalize w.drew = w2 at *
    refine wpAnyH_take (i := 0) (v := ?_) rfl (by kernel_rfl) (by kernel_rfl) (by kernel_rfl) (fun _ _ _ h => h) (Or.inl ⟨by rfl, ?_⟩) hH ?_
    case refine_2 => intro w hSw; go_simp; try with_reducible rfl
    try simp only [Z1, Z2, Z4, Z5, Z6, Z7]
    refine wpAnyH_take (i := 1) (v := ?_) rfl (by kernel_rfl) (by kernel_rfl) (by kernel_rfl) (fun _ _ _ h => h) (Or.inl ⟨by rfl, ?_⟩) hH ?_
    case refine_2 => intro w hSw; go_simp; try with_reducible rfl
    try simp only [Z1, Z2, Z3, Z4, Z5, Z6, Z7]
    refine wpAnyH_take (i := 2) (v := ?_) rfl (by kernel_rfl) (by kernel_rfl) (by kernel_rfl) (fun _ _ _ h => h) (Or.inl ⟨by rfl, ?_⟩) hH ?_
    case refine_2 => intro w hSw; go_simp; try with_reducible rfl
    try simp only [Z1, Z2, Z3, Z4, Z5, Z6, Z7]
    refine wpAnyH_take (i := 3) (v := ?_) rfl (by kernel_rfl) (by kernel_rfl) (by kernel_rfl) (fun _ _ _ h => h) (Or.inl ⟨by rfl, ?_⟩) hH ?_
    case refine_2 => intro w hSw; have h1 : Blk w g 77 (logC (.slice A m c) l) := hk.below hSw hk.lt; have n3 : w.cell? ⟨_, 3, none⟩ = some (.slice A m c) := Blk.cell h1 3; clear h1 hSw; go_simp; try with_reducible rfl
    try simp only [Z1, Z2, Z3, Z4, Z5, Z6, Z7]
    refine wpAnyH_take (i := 4) (v := ?_) rfl (by kernel_rfl) (by kernel_rfl) (by kernel_rfl) (fun _ _ _ h => h) (Or.inl ⟨by rfl, ?_⟩) hH ?_
    case refine_2 => intro w hSw; go_simp; try with_reducible rfl
    try simp only [Z1, Z2, Z3, Z4, Z5, Z6, Z7]
    refine wpAnyH_take (i := 5) (v := ?_) rfl (by kernel_rfl) (by kernel_rfl) (by kernel_rfl) (fun _ _ _ h => h) (Or.inl ⟨by rfl, ?_⟩) hH ?_
    case refine_2 => intro w hSw; go_simp; try with_reducible rfl
    try simp only [Z1, Z2, Z3, Z4, Z5, Z6, Z7]
    refine wpAnyH_take (i := 6) (v := ?_) rfl (by kernel_rfl) (by kernel_rfl) (by kernel_rfl) (fun _ _ _ h => h) (Or.inl ⟨by rfl, ?_⟩) hH ?_
    case refine_2 => intro w hSw; go_simp; try with_reducible rfl
    try simp only [Z1, Z2, Z3, Z4, Z5, Z6, Z7]
    refine wpAnyH_take (i := 7) (v := ?_) rfl (by kernel_rfl) (by kernel_rfl) (by kernel_rfl) (fun _ _ _ h => h) (Or.inl ⟨by rfl, ?_⟩) hH ?_
    case refine_2 => intro w hSw; go_simp; try with_reducible rfl
    try simp only [Z1, Z2, Z3, Z4, Z5, Z6, Z7]
    refine wpAnyH_take (i := 8) (v := ?_) rfl (by kernel_rfl) (by kernel_rfl) (by kernel_rfl) (fun _ _ _ h => h) (Or.inl ⟨by rfl, ?_⟩) hH ?_
    case refine_2 => intro w hSw; go_simp; try with_reducible rfl
    try simp only [Z1, Z2, Z3, Z4, Z5, Z6, Z7]
    refine wpAnyH_take (i := 9) (v := ?_) rfl (by kernel_rfl) (by kernel_rfl) (by kernel_rfl) (fun _ _ _ h => h) (Or.inl ⟨by rfl, ?_⟩) hH ?_
    case refine_2 => intro w hSw; go_simp; try with_reducible rfl
    try simp only [Z1, Z2, Z3, Z4, Z5, Z6, Z7]
    refine wpAnyH_take (i := 10) (v := ?_) rfl (by kernel_rfl) (by kernel_rfl) (by kernel_rfl) (fun _ _ _ h => h) (Or.inl ⟨by rfl, ?_⟩) hH ?_
    case refine_2 => intro w hSw; have h1 : Blk w g 77 (logC (.slice A m c) l) := hk.below hSw hk.lt; have n5 : w.cell? ⟨_, 5, none⟩ = some (.int .i64 l.size) := Blk.cell h1 5; clear h1 hSw; go_simp; try with_reducible rfl
    try simp only [Z1, Z2, Z3, Z4, Z5, Z6, Z7]
    refine wpAnyH_take (i := 11) (v := ?_) rfl (by kernel_rfl) (by kernel_rfl) (by kernel_rfl) (fun _ _ _ h => h) (Or.inl ⟨by rfl, ?_⟩) hH ?_
    case refine_2 => intro w hSw; go_simp; try with_reducible rfl
    try simp only [Z1, Z2, Z3, Z4, Z5, Z6, Z7]
    refine wpAnyH_take (i := 12) (v := ?_) rfl (by kernel_rfl) (by kernel_rfl) (by kernel_rfl) (fun _ _ _ h => h) (Or.inl ⟨by rfl, ?_⟩) hH ?_
    case refine_2 => intro w hSw; go_simp; try with_reducible rfl
    try simp only [Z1, Z2, Z3, Z4, Z5, Z6, Z7]
    refine wpAnyH_take (i := 13) (v := ?_) rfl (by kernel_rfl) (by kernel_rfl) (by kernel_rfl) (fun _ _ _ h => h) (Or.inl ⟨by rfl, ?_⟩) hH ?_
    case refine_2 => intro w hSw; go_simp; try with_reducible rfl
    try simp only [Z1, Z2, Z3, Z4, Z5, Z6, Z7]
    refine wpAnyH_take (i := 14) (v := ?_) rfl (by kernel_rfl) (by kernel_rfl) (by kernel_rfl) (fun _ _ _ h => h) (Or.inl ⟨by rfl, ?_⟩) hH ?_
    case refine_2 => intro w hSw; have h1 : Blk w g 77 (logC (.slice A m c) l) := hk.below hSw hk.lt; have n2 : w.cell? ⟨_, 2, none⟩ = some (.int .i64 l.most) := Blk.cell h1 2; clear h1 hSw; go_simp; try with_reducible rfl
    try simp only [Z1, Z2, Z3, Z4, Z5, Z6, Z7]
    refine wpAnyH_take (i := 15) (v := ?_) rfl (by kernel_rfl) (by kernel_rfl) (by kernel_rfl) (fun _ _ _ h => h) (Or.inl ⟨by rfl, ?_⟩) hH ?_
    case refine_2 => intro w hSw; go_simp; try with_reducible rfl
    try simp only [Z1, Z2, Z3, Z4, Z5, Z6, Z7]
    refine wpAnyH_take (i := 16) (v := ?_) rfl (by kernel_rfl) (by kernel_rfl) (by kernel_rfl) (fun _ _ _ h => h) (Or.inl ⟨by rfl, ?_⟩) hH ?_
    case refine_2 => intro w hSw; go_simp; try with_reducible rfl
    try simp only [Z1, Z2, Z3, Z4, Z5, Z6, Z7]
    refine wpAnyH_take (i := 17) (v := ?_) rfl (by kernel_rfl) (by kernel_rfl) (by kernel_rfl) (fun _ _ _ h => h) (Or.inl ⟨by rfl, ?_⟩) hH ?_
    case refine_2 => intro w hSw; go_simp; try with_reducible rfl
    try simp only [Z1, Z2, Z3, Z4, Z5, Z6, Z7]
    refine wpAnyH_take (i := 18) (v := undef) rfl (by kernel_rfl) (by kernel_rfl) (by kernel_rfl) (fun _ _ _ h => h) (Or.inr ⟨by rfl, rfl⟩) hH ?_
    try simp only [Z1, Z2, Z3, Z4, Z5, Z6, Z7]
    refine wpAnyH_take (i := 19) (v := undef) rfl (by kernel_rfl) (by kernel_rfl) (by kernel_rfl) (fun _ _ _ h => h) (Or.inr ⟨by rfl, rfl⟩) hH ?_
    try simp only [Z1, Z2, Z3, Z4, Z5, Z6, Z7]
    refine wpAnyH_take (i := 20) (v := undef) rfl (by kernel_rfl) (by kernel_rfl) (by kernel_rfl) (fun _ _ _ h => h) (Or.inr ⟨by rfl, rfl⟩) hH ?_
    try simp only [Z1, Z2, Z3, Z4, Z5, Z6, Z7]
    refine wpAnyH_take (i := 21) (v := undef) rfl (by kernel_rfl) (by kernel_rfl) (by kernel_rfl) (fun _ _ _ h => h) (Or.inr ⟨by rfl, rfl⟩) hH ?_
    try simp only [Z1, Z2, Z3, Z4, Z5, Z6, Z7]
    refine wpAnyH_take (i := 22) (v := undef) rfl (by kernel_rfl) (by kernel_rfl) (by kernel_rfl) (fun _ _ _ h => h) (Or.inr ⟨by rfl, rfl⟩) hH ?_
    try simp only [Z1, Z2, Z3, Z4, Z5, Z6, Z7]
    refine wpAnyH_take (i := 23) (v := undef) rfl (by kernel_rfl) (by kernel_rfl) (by kernel_rfl) (fun _ _ _ h => h) (Or.inr ⟨by rfl, rfl⟩) hH ?_
    try simp only [Z1, Z2, Z3, Z4, Z5, Z6, Z7]
    refine wpAnyH_take (i := 24) (v := undef) rfl (by kernel_rfl) (by kernel_rfl) (by kernel_rfl) (fun _ _ _ h => h) (Or.inr ⟨by rfl, rfl⟩) hH ?_
    try simp only [Z1, Z2, Z3, Z4, Z5, Z6, Z7]
    refine wpAnyH_take (i := 25) (v := undef) rfl (by kernel_rfl) (by kernel_rfl) (by kernel_rfl) (fun _ _ _ h => h) (Or.inr ⟨by rfl, rfl⟩) hH ?_
    try simp only [Z1, Z2, Z3, Z4, Z5, Z6, Z7]
    refine wpAnyH_take (i := 26) (v := undef) rfl (by kernel_rfl) (by kernel_rfl) (by kernel_rfl) (fun _ _ _ h => h) (Or.inr ⟨by rfl, rfl⟩) hH ?_
    try simp only [Z1, Z2, Z3, Z4, Z5, Z6, Z7]
    refine wpAnyH_take (i := 27) (v := undef) rfl (by kernel_rfl) (by kernel_rfl) (by kernel_rfl) (fun _ _ _ h => h) (Or.inr ⟨by rfl, rfl⟩) hH ?_
    try simp only [Z1, Z2, Z3, Z4, Z5, Z6, Z7]
    refine wpAnyH_take (i := 28) (v := undef) rfl (by kernel_rfl) (by kernel_rfl) (by kernel_rfl) (fun _ _ _ h => h) (Or.inr ⟨by rfl, rfl⟩) hH ?_
    try simp only [Z1, Z2, Z3, Z4, Z5, Z6, Z7]
    refine wpAnyH_take (i := 29) (v := undef) rfl (by kernel_rfl) (by kernel_rfl) (by kernel_rfl) (fun _ _ _ h => h) (Or.inr ⟨by rfl, rfl⟩) hH ?_
    try simp only [Z1, Z2, Z3, Z4, Z5, Z6, Z7]
    refine wpAnyH_take (i := 30) (v := undef) rfl (by kernel_rfl) (by kernel_rfl) (by kernel_rfl) (fun _ _ _ h => h) (Or.inr ⟨by rfl, rfl⟩) hH ?_
    try simp only [Z1, Z2, Z3, Z4, Z5, Z6, Z7]
    refine wpAnyH_take (i := 31) (v := undef) rfl (by kernel_rfl) (by kernel_rfl) (by kernel_rfl) (fun _ _ _ h => h) (Or.inr ⟨by rfl, rfl⟩) hH ?_
    try simp only [Z1, Z2, Z3, Z4, Z5, Z6, Z7]
    refine wpAnyH_take (i := 32) (v := ?_) rfl (by kernel_rfl) (by kernel_rfl) (by kernel_rfl) (fun _ _ _ h => h) (Or.inl ⟨by rfl, ?_⟩) hH ?_
    case refine_2 => intro w hSw; go_simp; try with_reducible rfl
    try simp only [Z1, Z2, Z3, Z4, Z5, Z6, Z7]
    refine wpAnyH_take (i := 33) (v := ?_) rfl (by kernel_rfl) (by kernel_rfl) (by kernel_rfl) (fun _ _ _ h => h) (Or.inl ⟨by rfl, ?_⟩) hH ?_
    case refine_2 => intro w hSw; go_simp; try with_reducible rfl
    try simp only [Z1, Z2, Z3, Z4, Z5, Z6, Z7]
    refine wpAnyH_done (by kernel_rfl) ?_ _
    refine NoPanic.normal ?_
    go_wp2_with fail
    go_ret
    exact ⟨congrArg (fun b => Ending.returned (.bool b)) HR.out.symm, bd⟩
  cases hr : l.rot with
  | false =>
    have HR : Hid (fr = false) := by show _ = _; rw [hfr, decide_eq_false h2, hr]; rfl
    clear hfr T
    have bd := kS
    go_enter Try.func39, Try.ntmps39
    go_upto_region 1 with fail
    refine wp_region_noPanic ?_
    refine wp_region_held_drew (S := fun Y => Below w.heap.size w Y) (by kernel_rfl) kS (fun hH => ?_)
    generalize w.drew = w2 at *
    refine wpAnyH_take (i := 0) (v := ?_) rfl (by kernel_rfl) (by kernel_rfl) (by kernel_rfl) (fun _ _ _ h => h) (Or.inl ⟨by rfl, ?_⟩) hH ?_
    case refine_2 => intro w hSw; go_simp; try with_reducible rfl
    try simp only [Z1, Z2, Z4, Z5, Z6, Z7]
    refine wpAnyH_take (i := 1) (v := ?_) rfl (by kernel_rfl) (by kernel_rfl) (by kernel_rfl) (fun _ _ _ h => h) (Or.inl ⟨by rfl, ?_⟩) hH ?_
    case refine_2 => intro w hSw; go_simp; try with_reducible rfl
    try simp only [Z1, Z2, Z3, Z4, Z5, Z6, Z7]
    refine wpAnyH_take (i := 2) (v := ?_) rfl (by kernel_rfl) (by kernel_rfl) (by kernel_rfl) (fun _ _ _ h => h) (Or.inl ⟨by rfl, ?_⟩) hH ?_
    case refine_2 => intro w hSw; go_simp; try with_reducible rfl
    try simp only [Z1, Z2, Z3, Z4, Z5, Z6, Z7]
    refine wpAnyH_take (i := 3) (v := ?_) rfl (by kernel_rfl) (by kernel_rfl) (by kernel_rfl) (fun _ _ _ h => h) (Or.inl ⟨by rfl, ?_⟩) hH ?_
    case refine_2 => intro w hSw; have h1 : Blk w g 77 (logC (.slice A m c) l) := hk.below hSw hk.lt; have n3 : w.cell? ⟨_, 3, none⟩ = some (.slice A m c) := Blk.cell h1 3; clear h1 hSw; go_simp; try with_reducible rfl
    try simp only [Z1, Z2, Z3, Z4, Z5, Z6, Z7]
    refine wpAnyH_take (i := 4) (v := ?_) rfl (by kernel_rfl) (by kernel_rfl) (by kernel_rfl) (fun _ _ _ h => h) (Or.inl ⟨by rfl, ?_⟩) hH ?_
    case refine_2 => intro w hSw; go_simp; try with_reducible rfl
    try simp only [Z1, Z2, Z3, Z4, Z5, Z6, Z7]
    refine wpAnyH_take (i := 5) (v := ?_) rfl (by kernel_rfl) (by kernel_rfl) (by kernel_rfl) (fun _ _ _ h => h) (Or.inl ⟨by rfl, ?_⟩) hH ?_
    case refine_2 => intro w hSw; go_simp; try with_reducible rfl
    try simp only [Z1, Z2, Z3, Z4, Z5, Z6, Z7]
    refine wpAnyH_take (i := 6) (v := ?_) rfl (by kernel_rfl) (by kernel_rfl) (by kernel_rfl) (fun _ _ _ h => h) (Or.inl ⟨by rfl, ?_⟩) hH ?_
    case refine_2 => intro w hSw; go_simp; try with_reducible rfl
    try simp only [Z1, Z2, Z3, Z4, Z5, Z6, Z7]
    refine wpAnyH_take (i := 7) (v := ?_) rfl (by kernel_rfl) (by kernel_rfl) (by kernel_rfl) (fun _ _ _ h => h) (Or.inl ⟨by rfl, ?_⟩) hH ?_
    case refine_2 => intro w hSw; go_simp; try with_reducible rfl
    try simp only [Z1, Z2, Z3, Z4, Z5, Z6, Z7]
    refine wpAnyH_take (i := 8) (v := ?_) rfl (by kernel_rfl) (by kernel_rfl) (by kernel_rfl) (fun _ _ _ h => h) (Or.inl ⟨by rfl, ?_⟩) hH ?_
    case refine_2 => intro w hSw; go_simp; try with_reducible rfl
    try simp only [Z1, Z2, Z3, Z4, Z5, Z6, Z7]
    refine wpAnyH_take (i := 9) (v := ?_) rfl (by kernel_rfl) (by kernel_rfl) (by kernel_rfl) (fun _ _ _ h => h) (Or.inl ⟨by rfl, ?_⟩) hH ?_
    case refine_2 => intro w hSw; go_simp; try with_reducible rfl
    try simp only [Z1, Z2, Z3, Z4, Z5, Z6, Z7]
    refine wpAnyH_take (i := 10) (v := ?_) rfl (by kernel_rfl) (by kernel_rfl) (by kernel_rfl) (fun _ _ _ h => h) (Or.inl ⟨by rfl, ?_⟩) hH ?_
    case refine_2 => intro w hSw; have h1 : Blk w g 77 (logC (.slice A m c) l) := hk.below hSw hk.lt; have n5 : w.cell? ⟨_, 5, none⟩ = some (.int .i64 l.size) := Blk.cell h1 5; clear h1 hSw; go_simp; try with_reducible rfl
    try simp only [Z1, Z2, Z3, Z4, Z5, Z6, Z7]
    refine wpAnyH_take (i := 11) (v := ?_) rfl (by kernel_rfl) (by kernel_rfl) (by kernel_rfl) (fun _ _ _ h => h) (Or.inl ⟨by rfl, ?_⟩) hH ?_
    case refine_2 => intro w hSw; go_simp; try with_reducible rfl
    try simp only [Z1, Z2, Z3, Z4, Z5, Z6, Z7]
    refine wpAnyH_take (i := 12) (v := ?_) rfl (by kernel_rfl) (by kernel_rfl) (by kernel_rfl) (fun _ _ _ h => h) (Or.inl ⟨by rfl, ?_⟩) hH ?_
    case refine_2 => intro w hSw; go_simp; try with_reducible rfl
    try simp only [Z1, Z2, Z3, Z4, Z5, Z6, Z7]
    refine wpAnyH_take (i := 13) (v := ?_) rfl (by kernel_rfl) (by kernel_rfl) (by kernel_rfl) (fun _ _ _ h => h) (Or.inl ⟨by rfl, ?_⟩) hH ?_
    case refine_2 => intro w hSw; go_simp; try with_reducible rfl
    try simp only [Z1, Z2, Z3, Z4, Z5, Z6, Z7]
    refine wpAnyH_take (i := 14) (v := ?_) rfl (by kernel_rfl) (by kernel_rfl) (by kernel_rfl) (fun _ _ _ h => h) (Or.inl ⟨by rfl, ?_⟩) hH ?_
    case refine_2 => intro w hSw; have h1 : Blk w g 77 (logC (.slice A m c) l) := hk.below hSw hk.lt; have n2 : w.cell? ⟨_, 2, none⟩ = some (.int .i64 l.most) := Blk.cell h1 2; clear h1 hSw; go_simp; try with_reducible rfl
    try simp only [Z1, Z2, Z3, Z4, Z5, Z6, Z7]
    refine wpAnyH_take (i := 15) (v := ?_) rfl (by kernel_rfl) (by kernel_rfl) (by kernel_rfl) (fun _ _ _ h => h) (Or.inl ⟨by rfl, ?_⟩) hH ?_
    case refine_2 => intro w hSw; go_simp; try with_reducible rfl
    try simp only [Z1, Z2, Z3, Z4, Z5, Z6, Z7]
    refine wpAnyH_take (i := 16) (v := ?_) rfl (by kernel_rfl) (by kernel_rfl) (by kernel_rfl) (fun _ _ _ h => h) (Or.inl ⟨by rfl, ?_⟩) hH ?_
    case refine_2 => intro w hSw; go_simp; try with_reducible rfl
    try simp only [Z1, Z2, Z3, Z4, Z5, Z6, Z7]
    refine wpAnyH_take (i := 17) (v := ?_) rfl (by kernel_rfl) (by kernel_rfl) (by kernel_rfl) (fun _ _ _ h => h) (Or.inl ⟨by rfl, ?_⟩) hH ?_
    case refine_2 => intro w hSw; go_simp; try with_reducible rfl
    try simp only [Z1, Z2, Z3, Z4, Z5, Z6, Z7]
    refine wpAnyH_take (i := 18) (v := ?_) rfl (by kernel_rfl) (by kernel_rfl) (by kernel_rfl) (fun _ _ _ h => h) (Or.inl ⟨by rfl, ?_⟩) hH ?_
    case refine_2 => intro w hSw; go_simp; try with_reducible rfl
    try simp only [Z1, Z2, Z3, Z4, Z5, Z6, Z7]
    refine wpAnyH_take (i := 19) (v := ?_) rfl (by kernel_rfl) (by kernel_rfl) (by kernel_rfl) (fun _ _ _ h => h) (Or.inl ⟨by rfl, ?_⟩) hH ?_
    case refine_2 => intro w hSw; go_simp; try with_reducible rfl
    try simp only [Z1, Z2, Z3, Z4, Z5, Z6, Z7]
    refine wpAnyH_take (i := 20) (v := ?_) rfl (by kernel_rfl) (by kernel_rfl) (by kernel_rfl) (fun _ _ _ h => h) (Or.inl ⟨by rfl, ?_⟩) hH ?_
    case refine_2 => intro w hSw; go_simp; try with_reducible rfl
    try simp only [Z1, Z2, Z3, Z4, Z5, Z6, Z7]
    refine wpAnyH_take (i := 21) (v := ?_) rfl (by kernel_rfl) (by kernel_rfl) (by kernel_rfl) (fun _ _ _ h => h) (Or.inl ⟨by rfl, ?_⟩) hH ?_
    case refine_2 => intro w hSw; have h1 : Blk w g 77 (logC (.slice A m c) l) := hk.below hSw hk.lt; have n6 : w.cell? ⟨_, 6, none⟩ = some (.bool l.rot) := Blk.cell h1 6; clear h1 hSw; go_simp; try with_reducible rfl
    try simp only [Z1, Z2, Z3, Z4, Z5, Z6, Z7]
    refine wpAnyH_take (i := 22) (v := ?_) rfl (by kernel_rfl) (by kernel_rfl) (by kernel_rfl) (fun _ _ _ h => h) (Or.inl ⟨by rfl, ?_⟩) hH ?_
    case refine_2 => intro w hSw; go_simp; try with_reducible rfl
    try simp only [Z1, Z2, Z3, Z4, Z5, Z6, Z7]
    refine wpAnyH_take (i := 23) (v := undef) rfl (by kernel_rfl) (by kernel_rfl) (by kernel_rfl) (fun _ _ _ h => h) (Or.inr ⟨by rfl, rfl⟩) hH ?_
    try simp only [Z1, Z2, Z3, Z4, Z5, Z6, Z7]
    refine wpAnyH_take (i := 24) (v := undef) rfl (by kernel_rfl) (by kernel_rfl) (by kernel_rfl) (fun _ _ _ h => h) (Or.inr ⟨by rfl, rfl⟩) hH ?_
    try simp only [Z1, Z2, Z3, Z4, Z5, Z6, Z7]
    refine wpAnyH_take (i := 25) (v := undef) rfl (by kernel_rfl) (by kernel_rfl) (by kernel_rfl) (fun _ _ _ h => h) (Or.inr ⟨by rfl, rfl⟩) hH ?_
    try simp only [Z1, Z2, Z3, Z4, Z5, Z6, Z7]
    refine wpAnyH_take (i := 26) (v := undef) rfl (by kernel_rfl) (by kernel_rfl) (by kernel_rfl) (fun _ _ _ h => h) (Or.inr ⟨by rfl, rfl⟩) hH ?_
    try simp only [Z1, Z2, Z3, Z4, Z5, Z6, Z7]
    refine wpAnyH_take (i := 27) (v := undef) rfl (by kernel_rfl) (by kernel_rfl) (by kernel_rfl) (fun _ _ _ h => h) (Or.inr ⟨by rfl, rfl⟩) hH ?_
    try simp only [Z1, Z2, Z3, Z4, Z5, Z6, Z7]
    refine wpAnyH_take (i := 28) (v := undef) rfl (by kernel_rfl) (by kernel_rfl) (by kernel_rfl) (fun _ _ _ h => h) (Or.inr ⟨by rfl, rfl⟩) hH ?_
    try simp only [Z1, Z2, Z3, Z4, Z5, Z6, Z7]
    refine wpAnyH_take (i := 29) (v := undef) rfl (by kernel_rfl) (by kernel_rfl) (by kernel_rfl) (fun _ _ _ h => h) (Or.inr ⟨by rfl, rfl⟩) hH ?_
    try simp only [Z1, Z2, Z3, Z4, Z5, Z6, Z7]
    refine wpAnyH_take (i := 30) (v := undef) rfl (by kernel_rfl) (by kernel_rfl) (by kernel_rfl) (fun _ _ _ h => h) (Or.inr ⟨by rfl, rfl⟩) hH ?_
    try simp only [Z1, Z2, Z3, Z4, Z5, Z6, Z7]
    refine wpAnyH_take (i := 31) (v := ?_) rfl (by kernel_rfl) (by kernel_rfl) (by kernel_rfl) (fun _ _ _ h => h) (Or.inl ⟨by rfl, ?_⟩) hH ?_
    case refine_2 => intro w hSw; go_simp; try with_reducible rfl
    try simp only [Z1, Z2, Z3, Z4, Z5, Z6, Z7]
    refine wpAnyH_take (i := 32) (v := ?_) rfl (by kernel_rfl) (by kernel_rfl) (by kernel_rfl) (fun _ _ _ h => h) (Or.inl ⟨by rfl, ?_⟩) hH ?_
    case refine_2 => intro w hSw; go_simp; try with_reducible rfl
    try simp only [Z1, Z2, Z3, Z4, Z5, Z6, Z7]
    refine wpAnyH_take (i := 33) (v := ?_) rfl (by kernel_rfl) (by kernel_rfl) (by kernel_rfl) (fun _ _ _ h => h) (Or.inl ⟨by rfl, ?_⟩) hH ?_
    case refine_2 => intro w hSw; go_simp; try with_reducible rfl
    try simp only [Z1, Z2, Z3, Z4, Z5, Z6, Z7]
    refine wpAnyH_done (by kernel_rfl) ?_ _
    refine NoPanic.normal ?_
    go_wp2_with fail
    go_ret
    exact ⟨congrArg (fun b => Ending.returned (.bool b)) HR.out.symm, bd⟩
  | true =>
    have HR : Hid (fr = decide (n < l.next)) := by show _ = _; rw [hfr, decide_eq_false h2, hr]; rfl
    clear hfr
    have bd := kS
    go_enter Try.func39, Try.ntmps39
    go_upto_region 1 with fail
    refine wp_region_noPanic ?_
    refine wp_region_held_drew (S := fun Y => Below w.heap.size w Y) (by kernel_rfl) kS (fun hH => ?_)
    generalize w.drew = w2 at *
    refine wpAnyH_take (i := 0) (v := ?_) rfl (by kernel_rfl) (by kernel_rfl) (by kernel_rfl) (fun _ _ _ h => h) (Or.inl ⟨by rfl, ?_⟩) hH ?_
    case refine_2 => intro w hSw; go_simp; try with_reducible rfl
    try simp only [Z1, Z2, Z4, Z5, Z6, Z7]
    refine wpAnyH_take (i := 1) (v := ?_) rfl (by kernel_rfl) (by kernel_rfl) (by kernel_rfl) (fun _ _ _ h => h) (Or.inl ⟨by rfl, ?_⟩) hH ?_
    case refine_2 => intro w hSw; go_simp; try with_reducible rfl
    try simp only [Z1, Z2, Z3, Z4, Z5, Z6, Z7]
    refine wpAnyH_take (i := 2) (v := ?_) rfl (by kernel_rfl) (by kernel_rfl) (by kernel_rfl) (fun _ _ _ h => h) (Or.inl ⟨by rfl, ?_⟩) hH ?_
    case refine_2 => intro w hSw; go_simp; try with_reducible rfl
    try simp only [Z1, Z2, Z3, Z4, Z5, Z6, Z7]
    refine wpAnyH_take (i := 3) (v := ?_) rfl (by kernel_rfl) (by kernel_rfl) (by kernel_rfl) (fun _ _ _ h => h) (Or.inl ⟨by rfl, ?_⟩) hH ?_
    case refine_2 => intro w hSw; have h1 : Blk w g 77 (logC (.slice A m c) l) := hk.below hSw hk.lt; have n3 : w.cell? ⟨_, 3, none⟩ = some (.slice A m c) := Blk.cell h1 3; clear h1 hSw; go_simp; try with_reducible rfl
    try simp only [Z1, Z2, Z3, Z4, Z5, Z6, Z7]
    refine wpAnyH_take (i := 4) (v := ?_) rfl (by kernel_rfl) (by kernel_rfl) (by kernel_rfl) (fun _ _ _ h => h) (Or.inl ⟨by rfl, ?_⟩) hH ?_
    case refine_2 => intro w hSw; go_simp; try with_reducible rfl
    try simp only [Z1, Z2, Z3, Z4, Z5, Z6, Z7]
    refine wpAnyH_take (i := 5) (v := ?_) rfl (by kernel_rfl) (by kernel_rfl) (by kernel_rfl) (fun _ _ _ h => h) (Or.inl ⟨by rfl, ?_⟩) hH ?_
    case refine_2 => intro w hSw; go_simp; try with_reducible rfl
    try simp only [Z1, Z2, Z3, Z4, Z5, Z6, Z7]
    refine wpAnyH_take (i := 6) (v := ?_) rfl (by kernel_rfl) (by kernel_rfl) (by kernel_rfl) (fun _ _ _ h => h) (Or.inl ⟨by rfl, ?_⟩) hH ?_
    case refine_2 => intro w hSw; go_simp; try with_reducible rfl
    try simp only [Z1, Z2, Z3, Z4, Z5, Z6, Z7]
    refine wpAnyH_take (i := 7) (v := ?_) rfl (by kernel_rfl) (by kernel_rfl) (by kernel_rfl) (fun _ _ _ h => h) (Or.inl ⟨by rfl, ?_⟩) hH ?_
    case refine_2 => intro w hSw; go_simp; try with_reducible rfl
    try simp only [Z1, Z2, Z3, Z4, Z5, Z6, Z7]
    refine wpAnyH_take (i := 8) (v := ?_) rfl (by kernel_rfl) (by kernel_rfl) (by kernel_rfl) (fun _ _ _ h => h) (Or.inl ⟨by rfl, ?_⟩) hH ?_
    case refine_2 => intro w hSw; go_simp; try with_reducible rfl
    try simp only [Z1, Z2, Z3, Z4, Z5, Z6, Z7]
    refine wpAnyH_take (i := 9) (v := ?_) rfl (by kernel_rfl) (by kernel_rfl) (by kernel_rfl) (fun _ _ _ h => h) (Or.inl ⟨by rfl, ?_⟩) hH ?_
    case refine_2 => intro w hSw; go_simp; try with_reducible rfl
    try simp only [Z1, Z2, Z3, Z4, Z5, Z6, Z7]
    refine wpAnyH_take (i := 10) (v := ?_) rfl (by kernel_rfl) (by kernel_rfl) (by kernel_rfl) (fun _ _ _ h => h) (Or.inl ⟨by rfl, ?_⟩) hH ?_
    case refine_2 => intro w hSw; have h1 : Blk w g 77 (logC (.slice A m c) l) := hk.below hSw hk.lt; have n5 : w.cell? ⟨_, 5, none⟩ = some (.int .i64 l.size) := Blk.cell h1 5; clear h1 hSw; go_simp; try with_reducible rfl
    try simp only [Z1, Z2, Z3, Z4, Z5, Z6, Z7]
    refine wpAnyH_take (i := 11) (v := ?_) rfl (by kernel_rfl) (by kernel_rfl) (by kernel_rfl) (fun _ _ _ h => h) (Or.inl ⟨by rfl, ?_⟩) hH ?_
    case refine_2 => intro w hSw; go_simp; try with_reducible rfl
    try simp only [Z1, Z2, Z3, Z4, Z5, Z6, Z7]
    refine wpAnyH_take (i := 12) (v := ?_) rfl (by kernel_rfl) (by kernel_rfl) (by kernel_rfl) (fun _ _ _ h => h) (Or.inl ⟨by rfl, ?_⟩) hH ?_
    case refine_2 => intro w hSw; go_simp; try with_reducible rfl
    try simp only [Z1, Z2, Z3, Z4, Z5, Z6, Z7]
    refine wpAnyH_take (i := 13) (v := ?_) rfl (by kernel_rfl) (by kernel_rfl) (by kernel_rfl) (fun _ _ _ h => h) (Or.inl ⟨by rfl, ?_⟩) hH ?_
    case refine_2 => intro w hSw; go_simp; try with_reducible rfl
    try simp only [Z1, Z2, Z3, Z4, Z5, Z6, Z7]
    refine wpAnyH_take (i := 14) (v := ?_) rfl (by kernel_rfl) (by kernel_rfl) (by kernel_rfl) (fun _ _ _ h => h) (Or.inl ⟨by rfl, ?_⟩) hH ?_
    case refine_2 => intro w hSw; have h1 : Blk w g 77 (logC (.slice A m c) l) := hk.below hSw hk.lt; have n2 : w.cell? ⟨_, 2, none⟩ = some (.int .i64 l.most) := Blk.cell h1 2; clear h1 hSw; go_simp; try with_reducible rfl
    try simp only [Z1, Z2, Z3, Z4, Z5, Z6, Z7]
    refine wpAnyH_take (i := 15) (v := ?_) rfl (by kernel_rfl) (by kernel_rfl) (by kernel_rfl) (fun _ _ _ h => h) (Or.inl ⟨by rfl, ?_⟩) hH ?_
    case refine_2 => intro w hSw; go_simp; try with_reducible rfl
    try simp only [Z1, Z2, Z3, Z4, Z5, Z6, Z7]
    refine wpAnyH_take (i := 16) (v := ?_) rfl (by kernel_rfl) (by kernel_rfl) (by kernel_rfl) (fun _ _ _ h => h) (Or.inl ⟨by rfl, ?_⟩) hH ?_
    case refine_2 => intro w hSw; go_simp; try with_reducible rfl
    try simp only [Z1, Z2, Z3, Z4, Z5, Z6, Z7]
    refine wpAnyH_take (i := 17) (v := ?_) rfl (by kernel_rfl) (by kernel_rfl) (by kernel_rfl) (fun _ _ _ h => h) (Or.inl ⟨by rfl, ?_⟩) hH ?_
    case refine_2 => intro w hSw; go_simp; try with_reducible rfl
    try simp only [Z1, Z2, Z3, Z4, Z5, Z6, Z7]
    refine wpAnyH_take (i := 18) (v := ?_) rfl (by kernel_rfl) (by kernel_rfl) (by kernel_rfl) (fun _ _ _ h => h) (Or.inl ⟨by rfl, ?_⟩) hH ?_
    case refine_2 => intro w hSw; go_simp; try with_reducible rfl
    try simp only [Z1, Z2, Z3, Z4, Z5, Z6, Z7]
    refine wpAnyH_take (i := 19) (v := ?_) rfl (by kernel_rfl) (by kernel_rfl) (by kernel_rfl) (fun _ _ _ h => h) (Or.inl ⟨by rfl, ?_⟩) hH ?_
    case refine_2 => intro w hSw; go_simp; try with_reducible rfl
    try simp only [Z1, Z2, Z3, Z4, Z5, Z6, Z7]
    refine wpAnyH_take (i := 20) (v := ?_) rfl (by kernel_rfl) (by kernel_rfl) (by kernel_rfl) (fun _ _ _ h => h) (Or.inl ⟨by rfl, ?_⟩) hH ?_
    case refine_2 => intro w hSw; go_simp; try with_reducible rfl
    try simp only [Z1, Z2, Z3, Z4, Z5, Z6, Z7]
    refine wpAnyH_take (i := 21) (v := ?_) rfl (by kernel_rfl) (by kernel_rfl) (by kernel_rfl) (fun _ _ _ h => h) (Or.inl ⟨by rfl, ?_⟩) hH ?_
    case refine_2 => intro w hSw; have h1 : Blk w g 77 (logC (.slice A m c) l) := hk.below hSw hk.lt; have n6 : w.cell? ⟨_, 6, none⟩ = some (.bool l.rot) := Blk.cell h1 6; clear h1 hSw; go_simp; try with_reducible rfl
    try simp only [Z1, Z2, Z3, Z4, Z5, Z6, Z7]
    refine wpAnyH_take (i := 22) (v := ?_) rfl (by kernel_rfl) (by kernel_rfl) (by kernel_rfl) (fun _ _ _ h => h) (Or.inl ⟨by rfl, ?_⟩) hH ?_
    case refine_2 => intro w hSw; go_simp; try with_reducible rfl
    try simp only [Z1, Z2, Z3, Z4, Z5, Z6, Z7]
    refine wpAnyH_take (i := 23) (v := ?_) rfl (by kernel_rfl) (by kernel_rfl) (by kernel_rfl) (fun _ _ _ h => h) (Or.inl ⟨by rfl, ?_⟩) hH ?_
    case refine_2 => intro w hSw; go_simp; try with_reducible rfl
    try simp only [Z1, Z2, Z3, Z4, Z5, Z6, Z7]
    refine wpAnyH_take (i := 26) (v := ?_) rfl (by kernel_rfl) (by kernel_rfl) (by kernel_rfl) (fun _ _ _ h => h) (Or.inl ⟨by rfl, ?_⟩) hH ?_
    case refine_2 => intro w hSw; go_simp; try with_reducible rfl
    try simp only [Z1, Z2, Z3, Z4, Z5, Z6, Z7]
    refine wpAnyH_take (i := 27) (v := ?_) rfl (by kernel_rfl) (by kernel_rfl) (by kernel_rfl) (fun _ _ _ h => h) (Or.inl ⟨by rfl, ?_⟩) hH ?_
    case refine_2 => intro w hSw; go_simp; try with_reducible rfl
    try simp only [Z1, Z2, Z3, Z4, Z5, Z6, Z7]
    refine wpAnyH_take (i := 28) (v := ?_) rfl (by kernel_rfl) (by kernel_rfl) (by kernel_rfl) (fun _ _ _ h => h) (Or.inl ⟨by rfl, ?_⟩) hH ?_
    case refine_2 => intro w hSw; go_simp; try with_reducible rfl
    try simp only [Z1, Z2, Z3, Z4, Z5, Z6, Z7]
    refine wpAnyH_take (i := 29) (v := ?_) rfl (by kernel_rfl) (by kernel_rfl) (by kernel_rfl) (fun _ _ _ h => h) (Or.inl ⟨by rfl, ?_⟩) hH ?_
    case refine_2 => intro w hSw; have h1 : Blk w g 77 (logC (.slice A m c) l) := hk.below hSw hk.lt; have n4 : w.cell? ⟨_, 4, none⟩ = some (.int .u64 (l.next : Int)) := Blk.cell h1 4; clear h1 hSw; go_simp; try with_reducible rfl
    try simp only [Z1, Z2, Z3, Z4, Z5, Z6, Z7]
    refine wpAnyH_ready (rs := [24]) (by kernel_rfl) (by simp) ?_
    refine AllReadyH.cons rfl (fun K hK => ?_) AllReadyH.nil
    go_simp
    refine (T.out w2 bd).mono ?_
    rintro en w3 ⟨rfl, b3⟩
    have bd3 := below_step' bd b3
    refine hK.out _ _ bd3 (fun hH => ?_)
    clear hK K
    try dsimp only
    try simp only [Z1, Z2, Z3, Z4, Z5, Z6, Z7]
    refine wpAnyH_take (i := 25) (v := ?_) rfl (by kernel_rfl) (by kernel_rfl) (by kernel_rfl) (fun _ _ _ h => h) (Or.inl ⟨by rfl, ?_⟩) hH ?_
    case refine_2 => intro w hSw; have hf : (Instr.field 82 (.agg #[.int .u64 (n : Int)]) 0).run Try.prog w = .ok (.int .u64 (n : Int)) w := (by kernel_rfl); go_simp; try with_reducible rfl
    try simp only [Z1, Z2, Z3, Z4, Z5, Z6, Z7]
    refine wpAnyH_take (i := 30) (v := ?_) rfl (by kernel_rfl) (by kernel_rfl) (by kernel_rfl) (fun _ _ _ h => h) (Or.inl ⟨by rfl, ?_⟩) hH ?_
    case refine_2 => intro w hSw; go_simp; try with_reducible rfl
    try simp only [Z1, Z2, Z3, Z4, Z5, Z6, Z7]
    refine wpAnyH_take (i := 31) (v := ?_) rfl (by kernel_rfl) (by kernel_rfl) (by kernel_rfl) (fun _ _ _ h => h) (Or.inl ⟨by rfl, ?_⟩) hH ?_
    case refine_2 => intro w hSw; go_simp; try with_reducible rfl
    try simp only [Z1, Z2, Z3, Z4, Z5, Z6, Z7]
    refine wpAnyH_take (i := 32) (v := ?_) rfl (by kernel_rfl) (by kernel_rfl) (by kernel_rfl) (fun _ _ _ h => h) (Or.inl ⟨by rfl, ?_⟩) hH ?_
    case refine_2 => intro w hSw; go_simp; try with_reducible rfl
    try simp only [Z1, Z2, Z3, Z4, Z5, Z6, Z7]
    refine wpAnyH_take (i := 33) (v := ?_) rfl (by kernel_rfl) (by kernel_rfl) (by kernel_rfl) (fun _ _ _ h => h) (Or.inl ⟨by rfl, ?_⟩) hH ?_
    case refine_2 => intro w hSw; go_simp; try with_reducible rfl
    try simp only [Z1, Z2, Z3, Z4, Z5, Z6, Z7]
    refine wpAnyH_done (by kernel_rfl) ?_ _
    refine NoPanic.normal ?_
    go_wp2_with fail
    go_ret
    exact ⟨congrArg (fun b => Ending.returned (.bool b)) HR.out.symm, bd3⟩
set_option maxRecDepth 100000 in
set_option maxHeartbeats 4000000 in
theorem sync_log (g : Nat) (F : Nat → Prop) (l : LLog) (sg : List Nat) (d : LDisk) (ps : List PFile) (w : World) (hd : LD w g F l sg d ps) (hp : PsOk ps) (hl : LdOk d) (hsl : sg.length ≤ 1048576) :
    Calls Try.prog 28 #[.pointer (some ⟨g, 0, none⟩)] w (RetLD g F l sg (syncW l sg d ps) w) := by
  obtain ⟨A, c, hk, hs, hdd, hF, hpl⟩ := hd
  by_cases hn : sg = []
  · have hm0 : sg.length = 0 := by rw [hn]; rfl
    have HR : Hid (RetLD g F l sg (syncW l sg d ps) w (.returned (.int .i64 0)) w) := by
      show RetLD _ _ _ _ _ _ _ _
      unfold syncW
      rw [if_pos hn]
      exact ⟨rfl, ⟨⟨A, c, hk, hs, hdd.mono fun x hx => hx.imp And.left id, fun x hx => hF x hx.1, hpl⟩, .refl _ _⟩⟩
    generalize syncW l sg d ps = R at *
    have c3 : w.cell? ⟨g, 3, none⟩ = some (.slice A 0 c) := by rw [hk.cell 3, ← hm0]; rfl
    clear hk hs hdd hF hn
    go_enter Try.func28, Try.ntmps28
    go_wp2_with fail
    go_ret
    exact HR.out
  · have hpos : 0 < sg.length := List.length_pos_iff.2 hn
    have hb : ((sg.length : Int) == 0) = false := by rw [beq_eq_false_iff_ne]; omega
    have hlw : lastW sg < 18446744073709551616 := by
      unfold lastW
      rw [List.getD_eq_getElem?_getD, List.getElem?_eq_getElem (by omega)]
      exact hs.1 _ (List.getElem_mem _)
    have T := Lib.hid (fun (W : World) (hW : BlP (fun x => F x ∨ x = g ∨ (Value.slice A sg.length c).ownBlock = some x) w W) => last_any g l sg A c W (hW.blk hk (.inr (.inl rfl))) (hs.blp hW (fun x e => .inr (.inr e))) hn hsl)
    have T2 := Lib.hid (fun (W : World) (hW : BlP (fun x => F x ∨ x = g ∨ (Value.slice A sg.length c).ownBlock = some x) w W) => name_any g (.slice A sg.length c) l (lastW sg) hlw W (hW.blk hk (.inr (.inl rfl))) hpl)
    have T3 := Lib.hid (fun (W : World) (hW : Below w.heap.size w W) => syncD_any (hdd.below hW) hp hl (nameW l.pre (lastW sg)) (by rw [nameW_len]; omega))
    have T4 := Lib.hid (fun (w3 w' : World) (d' : LDisk) (ps' : List PFile) => LD.dd (d' := d') (ps' := ps') (w3 := w3) (w' := w') hk hs hF hpl)
    have HR : Hid (syncW l sg d ps = syncP d ps (nameW l.pre (lastW sg))) := by show _ = _; unfold syncW; rw [if_neg hn]
    generalize syncW l sg d ps = R at *
    generalize nameW l.pre (lastW sg) = nm at *
    generalize lastW sg = n at *
    have HNE := Lib.hid hn
    clear hn hs hdd
    have c3 : w.cell? ⟨g, 3, none⟩ = some (.slice A sg.length c) := hk.cell 3
    obtain ⟨F0, hF0⟩ : ∃ F0 : Nat → Prop, F0 = fun x => F x ∨ x = g ∨ (Value.slice A sg.length c).ownBlock = some x := ⟨_, rfl⟩
    have hFg : F0 g := by rw [hF0]; exact .inr (.inl rfl)
    rw [← hF0] at T T2 T4
    generalize sg.length = m at *
    go_enter Try.func28, Try.ntmps28
    go_upto_region 3 with fail
    have bd : Below w.heap.size w w.drew := (Below.refl _ _).drew
    have kS : BlP F0 w w.drew := .of_below bd
    refine wp_region_noPanic ?_
    refine wp_region_held_drew (S := fun Y => BlP F0 w Y) (by kernel_rfl) kS (fun hH => ?_)
    generalize w.drew = w2 at *
    refine wpAnyH_take (i := 0) (v := ?_) rfl (by kernel_rfl) (by kernel_rfl) (by kernel_rfl) (fun _ _ _ h => h) (Or.inl ⟨by rfl, ?_⟩) hH ?_
    case refine_2 => intro w hSw; go_simp; try with_reducible rfl
    try simp only [Z1, Z2, Z4, Z5, Z6, Z7]
    refine wpAnyH_take (i := 1) (v := ?_) rfl (by kernel_rfl) (by kernel_rfl) (by kernel_rfl) (fun _ _ _ h => h) (Or.inl ⟨by rfl, ?_⟩) hH ?_
    case refine_2 => intro w hSw; go_simp; try with_reducible rfl
    try simp only [Z1, Z2, Z3, Z4, Z5, Z6, Z7]
    refine wpAnyH_take (i := 2) (v := ?_) rfl (by kernel_rfl) (by kernel_rfl) (by kernel_rfl) (fun _ _ _ h => h) (Or.inl ⟨by rfl, ?_⟩) hH ?_
    case refine_2 => intro w hSw; go_simp; try with_reducible rfl
    try simp only [Z1, Z2, Z3, Z4, Z5, Z6, Z7]
    refine wpAnyH_take (i := 3) (v := ?_) rfl (by kernel_rfl) (by kernel_rfl) (by kernel_rfl) (fun _ _ _ h => h) (Or.inl ⟨by rfl, ?_⟩) hH ?_
    case refine_2 => intro w hSw; go_simp; try with_reducible rfl
    try simp only [Z1, Z2, Z3, Z4, Z5, Z6, Z7]
    refine wpAnyH_take (i := 4) (v := ?_) rfl (by kernel_rfl) (by kernel_rfl) (by kernel_rfl) (fun _ _ _ h => h) (Or.inl ⟨by rfl, ?_⟩) hH ?_
    case refine_2 => intro w hSw; have h1 : Blk w g 77 (logC (.slice A m c) l) := hSw.blk hk hFg; have n0 : w.cell? ⟨_, 0, none⟩ = some (.pointer (some ⟨l.disk, 0, none⟩)) := Blk.cell h1 0; clear h1 hSw; go_simp; try with_reducible rfl
    try simp only [Z1, Z2, Z3, Z4, Z5, Z6, Z7]
    refine wpAnyH_take (i := 5) (v := ?_) rfl (by kernel_rfl) (by kernel_rfl) (by kernel_rfl) (fun _ _ _ h => h) (Or.inl ⟨by rfl, ?_⟩) hH ?_
    case refine_2 => intro w hSw; go_simp; try with_reducible rfl
    try simp only [Z1, Z2, Z3, Z4, Z5, Z6, Z7]
    refine wpAnyH_take (i := 6) (v := ?_) rfl (by kernel_rfl) (by kernel_rfl) (by kernel_rfl) (fun _ _ _ h => h) (Or.inl ⟨by rfl, ?_⟩) hH ?_
    case refine_2 => intro w hSw; go_simp; try with_reducible rfl
    try simp only [Z1, Z2, Z3, Z4, Z5, Z6, Z7]
    refine wpAnyH_ready (rs := [7]) (by kernel_rfl) (by simp) ?_
    refine AllReadyH.cons rfl (fun K hK => ?_) AllReadyH.nil
    go_simp
    refine (T.out w2 kS).mono ?_
    rintro en w3 ⟨rfl, b3⟩
    have bd3 := below_step' bd b3
    have kS3 : BlP F0 w w3 := .of_below bd3
    refine hK.out _ _ kS3 (fun hH => ?_)
    clear hK K
    try dsimp only
    try simp only [Z1, Z2, Z3, Z4, Z5, Z6, Z7]
    refine wpAnyH_ready (rs := [8]) (by kernel_rfl) (by simp) ?_
    refine AllReadyH.cons rfl (fun K hK => ?_) AllReadyH.nil
    go_simp
    refine (T2.out w3 kS3).mono ?_
    rintro en w4 ⟨rfl, b4⟩
    have bd4 := below_step' bd3 b4
    have kS4 : BlP F0 w w4 := .of_below bd4
    refine hK.out _ _ kS4 (fun hH => ?_)
    clear hK K
    try dsimp only
    try simp only [Z1, Z2, Z3, Z4, Z5, Z6, Z7]
    refine wpAnyH_ready (rs := [9]) (by kernel_rfl) (by simp) ?_
    refine AllReadyH.cons rfl (fun K hK => ?_) AllReadyH.nil
    go_simp
    refine (T3.out w4 bd4).mono ?_
    generalize syncP d ps nm = r at *
    obtain ⟨e, d', ps'⟩ := r
    rintro en w5 ⟨rfl, h5⟩
    have kS5 : BlP F0 w w5 := kS4.trans ⟨h5.2.os, h5.2.tape, h5.2.output, h5.2.size, fun k hk hb => h5.2.block k hk (.inl (by rw [hF0] at hb; exact hb))⟩
    have HE := Lib.hid (T4.out w4 w5 d' ps' kS4 h5)
    clear h5
    refine hK.out _ _ kS5 (fun hH => ?_)
    clear hK K
    try dsimp only
    try simp only [Z1, Z2, Z3, Z4, Z5, Z6, Z7]
    refine wpAnyH_take (i := 10) (v := ?_) rfl (by kernel_rfl) (by kernel_rfl) (by kernel_rfl) (fun _ _ _ h => h) (Or.inl ⟨by rfl, ?_⟩) hH ?_
    case refine_2 => intro w hSw; go_simp; try with_reducible rfl
    try simp only [Z1, Z2, Z3, Z4, Z5, Z6, Z7]
    refine wpAnyH_done (by kernel_rfl) ?_ _
    refine NoPanic.normal ?_
    go_wp2_with fail
    go_ret
    rw [HR.out]
    exact ⟨rfl, HE.out⟩
set_option maxRecDepth 100000 in
set_option maxHeartbeats 4000000 in
theorem rotate_log (g : Nat) (F : Nat → Prop) (l : LLog) (sg : List Nat) (d : LDisk) (ps : List PFile) (w : World) (hd : LD w g F l sg d ps) (hg : ¬ F g) (hp : PsOk ps) (hl : LdOk d) (hsl : sg.length ≤ 1048576) :
    Calls Try.prog 29 #[.pointer (some ⟨g, 0, none⟩)] w (RetLD g F { l with rot := l.rot || decide ((syncW l sg d ps).1 = 0) } sg (syncW l sg d ps) w) := by
  have T := sync_log g F l sg d ps w hd hp hl hsl
  have hgl := hd.lt
  clear hd
  generalize syncW l sg d ps = R at *
  obtain ⟨e, d', ps'⟩ := R
  go_enter Try.func29, Try.ntmps29
  go_wp2_with fail
  refine T.mono ?_
  clear T
  rintro en w2 ⟨rfl, h2, hb2⟩
  replace h2 : LD w2 g (fun x => F x ∧ x < w.heap.size) l sg d' ps' := h2
  by_cases he : e = 0
  · subst he
    obtain ⟨A, c, hk, _⟩ := id h2
    have y : w2.cell? ⟨g, 6, none⟩ = some (.bool l.rot) := hk.cell 6
    have f : w2.frozen? ⟨g, 6, none⟩ = false := hk.frozen 6
    obtain ⟨h3, hb3⟩ := h2.store (l' := { l with rot := true }) 6 (.bool true) (fun S => rfl) rfl rfl (fun h => hg h.1)
    clear hk
    go_wp2_with fail
    go_ret
    refine ⟨rfl, ?_, hb2.trans ⟨hb3.os, hb3.tape, hb3.output, hb3.size, fun x hx h => ?_⟩⟩
    · show LD _ g _ { l with rot := l.rot || true } sg d' ps'
      rw [Bool.or_true]
      exact h3.mono fun x hx => ⟨hx, Nat.lt_of_lt_of_le hx.2 hb2.size⟩
    · rcases Nat.lt_or_ge x w.heap.size with hxw | hxw
      · exact hb3.block x hx ⟨h, hxw⟩
      · exact Below.heap_setCell w2 _ _ x (fun e => by have e : x = g := e; omega)
  · have hb : (e == 0) = false := by rw [beq_eq_false_iff_ne]; exact he
    go_wp2_with fail
    go_ret
    refine ⟨rfl, ?_, hb2⟩
    show LD _ g _ { l with rot := l.rot || decide (e = 0) } sg d' ps'
    rw [decide_eq_false he, Bool.or_false]
    exact h2
end Go.Proofs.Ytbldfgpnghoigaa
