/- A log's replay: all segments are read. (Printed by wip/gen_walr.py.) wal.Open on a disk that is alive. -/
import Derived.Test.YtbldfgpnghoigaaWalC
namespace Go.Proofs.Ytbldfgpnghoigaa
open Go.RowKit

/-- what is read, segment behind segment -/
def repW (pre : List UInt8) (all : List Nat) (d : LDisk) (ps : List PFile) : List Nat → Nat → LLog → List Nat → List (List UInt8) → Int × LDisk × List PFile × LLog × List Nat × List (List UInt8)
  | [], _, l, sg, recs => (0, d, ps, l, sg, recs)
  | n :: r, i, l, sg, recs =>
    let b := (getP ps (nameW pre n)).1
    let t := openAllL sumN b
    if t.2 < b.length ∨ (r ≠ [] ∧ r.headD 0 ≠ n + t.1.length) then
      ((cleanW pre all i (t.2 : Int) d ps).1, (cleanW pre all i (t.2 : Int) d ps).2.1, (cleanW pre all i (t.2 : Int) d ps).2.2, { l with next := n + t.1.length, size := (t.2 : Int) }, sg ++ [n], recs ++ t.1)
    else repW pre all d ps r (i + 1) { l with next := n + t.1.length, size := (t.2 : Int) } (sg ++ [n]) (recs ++ t.1)
/-- the blocks of answered rows -/
def RowsB (A : Option Addr) (c : Nat) (rs : List R3) (x : Nat) : Prop := (Value.slice A rs.length c).ownBlock = some x ∨ ∃ r ∈ rs, (R3.v r).ownBlock = some x
/-- what replay answers -/
def RetRep (g : Nat) (F : Nat → Prop) (r : Int × LDisk × List PFile × LLog × List Nat × List (List UInt8)) (w : World) (en : Ending) (w' : World) : Prop :=
  ∃ A c rs, en = .returned (.tuple #[.slice A (List.length (α := R3) rs) c, .int .i64 r.1]) ∧ RowsIs w.heap.size w' A c rs ∧ Sep w.heap.size w' rs ∧ rs.map (·.2.1) = r.2.2.2.2.2 ∧ LD w' g (fun x => (F x ∧ x < w.heap.size) ∨ RowsB A c rs x) r.2.2.2.1 r.2.2.2.2.1 r.2.1 r.2.2.1 ∧ BlP F w w'
section
variable {w w' : World} {b : Nat} {A : Option Addr} {c : Nat} {rs : List R3} {v : Value} {sg : List Nat}
theorem own_same {t : TypeId} {size n : Nat} {xs : List Value} (h : w.ownsRow b t size v n xs) (hb : ∀ g, v.ownBlock = some g → w'.heap[g]? = w.heap[g]?) : w'.ownsRow b t size v n xs := by
  refine ⟨h.1, ?_⟩
  rcases h.2 with h | ⟨g, cap, cur, rfl, h1, h2, h3⟩
  · exact .inl h
  · exact .inr ⟨g, cap, cur, rfl, h1, (hb g rfl).trans h2, h3⟩
theorem own_type {t : TypeId} {size n g : Nat} {xs : List Value} (h : w.ownsRow b t size v n xs) (e : v.ownBlock = some g) : ∃ cs, Blk w g t cs := by
  rcases h.2 with ⟨rfl, _⟩ | ⟨g', cap, cur, rfl, h1, h2, h3⟩
  · cases e
  · obtain rfl : g' = g := Option.some.inj e
    exact ⟨cur, h2⟩
theorem SegAt.type {g : Nat} (h : SegAt w v sg) (e : v.ownBlock = some g) : ∃ cs, Blk w g 82 cs := by
  rcases h.2 with ⟨rfl, _⟩ | ⟨g', k, cap, cur, rfl, h1, _⟩
  · cases e
  · obtain rfl : g' = g := Option.some.inj e
    exact ⟨cur, h1⟩
theorem rows_same (h : RowsIs b w A c rs) (hS : Sep b w rs) (hb : ∀ x, RowsB A c rs x → w'.heap[x]? = w.heap[x]?) : RowsIs b w' A c rs ∧ Sep b w' rs :=
  ⟨own_same h fun g e => hb g (.inl e), ⟨fun r hr => own_same (hS.1 r hr) fun g e => hb g (.inr ⟨r, hr, e⟩), hS.2⟩⟩
theorem rows_lt (h : RowsIs b w A c rs) (hS : Sep b w rs) {x : Nat} (hx : RowsB A c rs x) : b ≤ x ∧ x < w.heap.size := by
  rcases hx with e | ⟨r, hr, e⟩
  · exact World.ownsRow.lt h x e
  · exact World.ownsRow.lt (hS.1 r hr) x e
theorem rows_seg (h : RowsIs b w A c rs) (hS : Sep b w rs) (hs : SegAt w v sg) {x : Nat} (hx : RowsB A c rs x) : v.ownBlock ≠ some x := fun e => by
  obtain ⟨cs, h1⟩ := hs.type e
  rcases hx with e2 | ⟨r, hr, e2⟩
  · obtain ⟨cs2, h2⟩ := own_type h e2
    exact h1.ne_ h2 (by decide) rfl
  · obtain ⟨cs2, h2⟩ := own_type (hS.1 r hr) e2
    exact h1.ne_ h2 (by decide) rfl
theorem rows_grown {row : Option Nat} (h : RowsIs b w A c rs) (hS : Sep b w rs) (hg : w.grownBy w' row) (hr : ∀ x, RowsB A c rs x → row ≠ some x) : RowsIs b w' A c rs ∧ Sep b w' rs :=
  rows_same h hS fun x hx => hg.block x (rows_lt h hS hx).2 (fun e => hr x hx e.symm)
theorem rows_below (h : RowsIs b w A c rs) (hS : Sep b w rs) (hb : Below w.heap.size w w') : RowsIs b w' A c rs ∧ Sep b w' rs := rows_same h hS fun x hx => hb.block x (rows_lt h hS hx).2
theorem BlP.hi {F : Nat → Prop} {w w' w2 : World} {row : Option Nat} (h : BlP F w w') (hg : w'.grownBy w2 row) (hr : ∀ g, row = some g → w.heap.size ≤ g) : BlP F w w2 :=
  ⟨hg.os.trans h.os, hg.tape.trans h.tape, hg.output.trans h.output, Nat.le_trans h.size hg.size, fun g h1 h2 => (hg.block g (Nat.lt_of_lt_of_le h1 h.size) (fun e => by have := hr g e.symm; omega)).trans (h.block g h1 h2)⟩
theorem BlP.more {F : Nat → Prop} {w w' w2 : World} (h : BlP F w w') (hb : Below w'.heap.size w' w2) : BlP F w w2 := h.trans (.of_below hb)
end
theorem own_base {w : World} {b b' : Nat} {v : Value} {t : TypeId} {size n : Nat} {xs : List Value} (h : w.ownsRow b t size v n xs) (hb : b' ≤ b) : w.ownsRow b' t size v n xs := by
  refine ⟨h.1, ?_⟩
  rcases h.2 with h | ⟨g, cap, cur, rfl, h1, h2, h3⟩
  · exact .inl h
  · exact .inr ⟨g, cap, cur, rfl, Nat.le_trans hb h1, h2, h3⟩
theorem wpList_appRG (b : Nat) (w : World) {ops : Array Oper} {rest : List Oper} {o : Oper} {a : Act} {Q : Exit → Act → World → Prop} (hgd : o.guard = none) (s x : Operand)
    (ho : o.op = .call { callee := .builtin .append, args := #[s, x], argTypes := #[27, 27] })
    (A : Option Addr) (rs : List R3) (c : Nat) (hs : a.eval s = .slice A rs.length c) (hown : RowsIs b w A c rs)
    (B : Option Addr) (ys : List R3) (d : Nat) (hx : a.eval x = .slice B ys.length d) (Bd : Nat) (hr : Reads w Bd 1 B ys.length (ys.map R3.v)) (hl : rs.length + ys.length ≤ 1000000) (hbw : b ≤ w.heap.size)
    (h : ∀ A' c' rs' w', Hid (rs' = rs ++ ys) → RowsIs b w' A' c' rs' → w.grownBy w' (Value.slice A rs.length c).ownBlock → wpList Try.prog ops Q rest (a.put o.dst (.slice A' rs'.length c')) w') : wpList Try.prog ops Q (o :: rest) a w := by
  obtain ⟨i0, hi0, hz0, hz1, hz2⟩ := info_parts Try.infoBs
  refine wpList_append_sh w hgd s x _ ho b 40 i0 _ 1 24 Try.underlying27 hi0 hz0 hz1 hz2 rfl (by omega) _ _ _ hs hown Bd B ys.length d (ys.map R3.v) hx hr (fun u hu => by obtain ⟨r, _, rfl⟩ := List.mem_map.1 hu; rfl) (by simp only [maxLen]; omega) (by omega) hbw ?_
  intro A' c' w' o' g' _
  have e : rs.length + ys.length = (rs ++ ys).length := by rw [List.length_append]
  rw [e, ← List.map_append] at o'
  rw [e]
  exact h A' c' (rs ++ ys) w' rfl o' g'
theorem Try.size_Seg' : (Try.prog.info? 82).map (·.size) = some 1 := by kernel_rfl
set_option maxRecDepth 100000 in
set_option maxHeartbeats 16000000 in
theorem replay_log (g : Nat) (F : Nat → Prop) (l : LLog) (d : LDisk) (ps : List PFile) (w : World) (hk : Blk w g 77 (logC (.slice none 0 0) l)) (hd : DD w l.disk (fun x => F x ∨ x = g) d ps) (hFg : ¬ F g) (hp : PsOk ps) (hl : LdOk d) (hpl : l.pre.length ≤ 1048576)
    (ha : ∀ nm ∈ listP d ps l.pre, ∀ b ∈ nm, b.toNat < 128) (hll : (listP d ps l.pre).length ≤ 1048576) (hrd : ∀ n ∈ foundW (listP d ps l.pre) l.pre, readP d ps (nameW l.pre n) = ((getP ps (nameW l.pre n)).1, 0))
    (hbn : ∀ n ∈ foundW (listP d ps l.pre) l.pre, n ≤ 1099511627776 ∧ (getP ps (nameW l.pre n)).1.length ≤ 1099511627776) (hal : (foundW (listP d ps l.pre) l.pre).length ≤ 1048575)
    (hsum : ((foundW (listP d ps l.pre) l.pre).map fun n => (openAllL sumN (getP ps (nameW l.pre n)).1).1.length).sum ≤ 99999) :
    Calls Try.prog 37 #[.pointer (some ⟨g, 0, none⟩)] w (RetRep g F (repW l.pre (foundW (listP d ps l.pre) l.pre) d ps (foundW (listP d ps l.pre) l.pre) 0 l [] []) w) := by
  have T := found_any g (.slice none 0 0) l (fun x => F x ∨ x = g) d ps w hk hd hp hpl ha hll
  obtain ⟨all, hall⟩ : ∃ all, all = foundW (listP d ps l.pre) l.pre := ⟨_, rfl⟩
  rw [← hall] at T hrd hbn hal hsum ⊢
  have hall64 : ∀ n ∈ all, n < 18446744073709551616 := fun n hn => by have := (hbn n hn).1; omega
  obtain ⟨R, hR⟩ : ∃ R, R = repW l.pre all d ps all 0 l [] [] := ⟨_, rfl⟩
  rw [← hR]
  have HR := Lib.hid hR
  have HP := Lib.hid hp
  have HL := Lib.hid hl
  have HRD := Lib.hid hrd
  have HBN := Lib.hid hbn
  have HSUM := Lib.hid hsum
  have HAL := Lib.hid hal
  have H64 := Lib.hid hall64
  have hgl := hk.lt
  clear hR hp hl hrd hbn hsum hal hall64 ha hll hall
  go_enter Try.func37, Try.ntmps37
  go_wp2_with fail
  refine T.mono ?_
  clear T
  rintro en w1 ⟨B, bc, rfl, oB, b1⟩
  have z1 := b1.size
  have k1 := hk.below b1 hk.lt
  have D1 : DD w1 l.disk (fun x => (F x ∨ x = g) ∨ w.heap.size ≤ x) d ps := hd.below b1
  have sB : SlS SegE w1 (fun x => w.heap.size ≤ x ∧ x < w1.heap.size) B all := SlS.mono (oB.slS (S' := fun x => w.heap.size ≤ x) rfl (by have := HAL.out; simp only [SegE]; omega) (fun _ h => h.elim) (fun _ h => h)) (fun b hb hS => ⟨hS, hb⟩)
  have HSB := Lib.hid sB
  have HD1 := Lib.hid D1
  have HB1 := Lib.hid b1
  clear oB hk hd sB D1 b1
  go_wp2_with fail
  go_loopw [4, 6, 7, 8, 9, 10, 11, 16] (fun v4 _ _ _ _ _ _ v16 wr => ∃ (k : Nat) (A2 : Option Addr) (c2 : Nat) (rs : List R3) (sg : List Nat) (A : Option Addr) (c : Nat) (nx : Nat) (sz : Int), k ≤ all.length ∧ v4 = .slice A2 rs.length c2 ∧ v16 = .int .i64 (k : Int) ∧ Hid (R = repW l.pre all d ps (all.drop k) k { l with next := nx, size := sz } sg (rs.map (·.2.1))) ∧ Hid (sg.length = k) ∧ Hid (rs.length + ((all.drop k).map fun n => (openAllL sumN (getP ps (nameW l.pre n)).1).1.length).sum ≤ 99999) ∧ RowsIs w1.heap.size wr A2 c2 rs ∧ Sep w1.heap.size wr rs ∧ Blk wr g 77 (logC (.slice A sg.length c) { l with next := nx, size := sz }) ∧ SegAt wr (.slice A sg.length c) sg ∧ Hid (∀ b, (Value.slice A sg.length c).ownBlock = some b → w1.heap.size ≤ b) ∧ BlP (fun x => x ≠ g) w1 wr) (fun _ _ _ _ _ _ _ v16 _ => all.length - (intOf v16).toNat)
  case atStart => exact ⟨0, none, 0, [], [], none, 0, l.next, l.size, Nat.zero_le _, rfl, rfl, HR.out, rfl, by show _ ≤ _; rw [List.drop_zero, List.length_nil, Nat.zero_add]; exact HSUM.out, World.ownsRow_nil _ _ _ _, Sep.nil_ _ _, k1, SegAt.nil_ _, (fun b e => by cases e), .refl _ _⟩
  case round =>
    clear HR HSUM k1
    obtain ⟨k, A2, c2, rs, sg, A, c, nx, sz, hk, rfl, rfl, HX, HSL, HSM, hR1, hS1, kG, sG, HROW, bG⟩ := hrel
    have zr := bG.size
    by_cases hlt : k < all.length
    · obtain ⟨ad, rfl, e0, hn64⟩ := SegE.at_ (HSB.out.same (w' := wr) ⟨bG.size, fun b h1 h2 => bG.block b h2 (fun e => by omega)⟩) hlt
      have hk1 : k + 1 ≤ all.length := hlt
      have hvw : wrap64 ((k : Int) + 1) = ((k + 1 : Nat) : Int) := by have := HAL.out; unfold wrap64; omega
      have HVW := Lib.hid hvw
      clear hvw
      have hvw2 : IntKind.i64.wrap ((k : Int) + 1) = (k : Int) + 1 := by have := HAL.out; simp [IntKind.wrap, IntKind.bits, IntKind.signed]; omega
      have HVW2 := Lib.hid hvw2
      clear hvw2
      have HMS : Hid (all.length - (intOf (Value.int .i64 ((k + 1 : Nat) : Int))).toNat < all.length - (intOf (Value.int .i64 (k : Int))).toNat) := by
        show _ < _
        simp only [intOf, Int.toNat_natCast]
        omega
      have HDR : Hid (all.drop k = all[k] :: all.drop (k + 1)) := List.drop_eq_getElem_cons hlt
      have HMEM : Hid (all[k] ∈ all) := List.getElem_mem hlt
      generalize all[k] = n at *
      have hbn := HBN.out n HMEM.out
      have HRDn := Lib.hid (HRD.out n HMEM.out)
      have kN : Blk (wr.alloc (.cells #[.int .u64 0] 82)) wr.heap.size 82 #[.int .u64 0] := Blk.new wr _ _
      have d2 : Below wr.heap.size wr (wr.alloc (.cells #[.int .u64 0] 82)) := (Below.refl _ _).alloc (Nat.le_refl _) _
      go_upto_region 6 with ((with_reducible refine wpList_store_blk rfl 82 (.tmp 7) (.tmp 20) rfl wr.heap.size 82 _ #[.int .u64 (n : Int)] ?_ ?_ kN Try.size_Seg' ?_ ?_ ?_ ?_); rfl; rfl; rfl; rfl; (simp [Value.oneCell']); intro w2 k2 g2 z2)
      have b02 : Below wr.heap.size wr w2 := d2.grown g2 d2.size (fun b e => by have := Option.some.inj e; omega)
      have z2r : wr.heap.size < w2.heap.size := k2.lt
      have kG2 := kG.below b02 kG.lt
      have sG2 := sG.below b02
      obtain ⟨hR2, hS2⟩ := rows_below hR1 hS1 b02
      have bG2 := bG.more b02
      have hrow1 : ∀ b, (Value.slice A2 rs.length c2).ownBlock = some b → w1.heap.size ≤ b ∧ b < wr.heap.size := fun b e => rows_lt hR1 hS1 (.inl e)
      have hrow2 : ∀ b, (Value.slice A sg.length c).ownBlock = some b → w1.heap.size ≤ b ∧ b < wr.heap.size := fun b e => ⟨HROW.out b e, sG.lt e⟩
      have DD2 : DD w2 l.disk (fun x => ((F x ∨ x = g) ∨ w.heap.size ≤ x) ∨ w1.heap.size ≤ x) d ps := HD1.out.blp bG2 (fun x _ hn => .inl (.inr (Classical.byContradiction hn)))
      clear kN d2 g2 hR1 hS1 kG sG bG z2 e0
      obtain ⟨at_, hat⟩ : ∃ at_, at_ = wr.heap.size := ⟨_, rfl⟩
      rw [← hat] at k2 z2r hrow1 hrow2
      rw [← hat]
      have HAT := Lib.hid hat
      have zat : w1.heap.size ≤ at_ := by rw [hat]; exact zr
      clear hat b02
      have HX2 : Hid (R = if (openAllL sumN (getP ps (nameW l.pre n)).1).2 < (getP ps (nameW l.pre n)).1.length ∨ (all.drop (k + 1) ≠ [] ∧ (all.drop (k + 1)).headD 0 ≠ n + (openAllL sumN (getP ps (nameW l.pre n)).1).1.length) then
          ((cleanW l.pre all k ((openAllL sumN (getP ps (nameW l.pre n)).1).2 : Int) d ps).1, (cleanW l.pre all k ((openAllL sumN (getP ps (nameW l.pre n)).1).2 : Int) d ps).2.1, (cleanW l.pre all k ((openAllL sumN (getP ps (nameW l.pre n)).1).2 : Int) d ps).2.2, { l with next := n + (openAllL sumN (getP ps (nameW l.pre n)).1).1.length, size := ((openAllL sumN (getP ps (nameW l.pre n)).1).2 : Int) }, sg ++ [n], rs.map (·.2.1) ++ (openAllL sumN (getP ps (nameW l.pre n)).1).1)
          else repW l.pre all d ps (all.drop (k + 1)) (k + 1) { l with next := n + (openAllL sumN (getP ps (nameW l.pre n)).1).1.length, size := ((openAllL sumN (getP ps (nameW l.pre n)).1).2 : Int) } (sg ++ [n]) (rs.map (·.2.1) ++ (openAllL sumN (getP ps (nameW l.pre n)).1).1)) := by
          show _ = _
          rw [HX.out, HDR.out]
          rfl
      have HSM2 : Hid (rs.length + ((openAllL sumN (getP ps (nameW l.pre n)).1).1.length + ((all.drop (k + 1)).map fun n => (openAllL sumN (getP ps (nameW l.pre n)).1).1.length).sum) ≤ 99999) := by
          have h := HSM.out
          rw [HDR.out, List.map_cons, List.sum_cons] at h
          exact h
      obtain ⟨rest, hrest⟩ : ∃ rest, rest = ((all.drop (k + 1)).map fun n => (openAllL sumN (getP ps (nameW l.pre n)).1).1.length).sum := ⟨_, rfl⟩
      rw [← hrest] at HSM2
      have HREST := Lib.hid hrest
      clear hrest
      have TN := Lib.hid (fun (W : World) (hW : Below w2.heap.size w2 W) => name_any g (.slice A sg.length c) { l with next := nx, size := sz } n hn64 W (kG2.below hW kG2.lt) hpl)
      have TR : Hid (∀ (W : World) (hW : Below w2.heap.size w2 W), Calls Try.prog 17 #[.pointer (some ⟨l.disk, 0, none⟩), .string ⟨(nameW l.pre n).toArray⟩] W (RetRead ((getP ps (nameW l.pre n)).1, 0) W)) := fun W hW => by
          rw [← HRDn.out]
          exact readD_any (DD2.below hW) (nameW l.pre n) (by rw [nameW_len]; omega)
      clear HX HDR HSM HRDn HBN
      generalize (getP ps (nameW l.pre n)).1 = bs at *
      have TO := Lib.hid (fun (W : World) (Q : Option Addr) (cq : Nat) (h : Bs W Q bs) (hc : bs.length ≤ cq ∧ cq ≤ 9223372036854775807) => openall_any Q bs cq W h hc (by have := HSM2.out; omega))
      generalize openAllL sumN bs = t at *
      obtain ⟨tp, te⟩ := t
      replace HX2 : Hid (R = if te < bs.length ∨ (all.drop (k + 1) ≠ [] ∧ (all.drop (k + 1)).headD 0 ≠ n + tp.length) then ((cleanW l.pre all k (te : Int) d ps).1, (cleanW l.pre all k (te : Int) d ps).2.1, (cleanW l.pre all k (te : Int) d ps).2.2, { l with next := n + tp.length, size := (te : Int) }, sg ++ [n], rs.map (·.2.1) ++ tp) else repW l.pre all d ps (all.drop (k + 1)) (k + 1) { l with next := n + tp.length, size := (te : Int) } (sg ++ [n]) (rs.map (·.2.1) ++ tp)) := HX2
      replace HSM2 : Hid (rs.length + (tp.length + rest) ≤ 99999) := HSM2
      generalize nameW l.pre n = nm at *
      have bd : Below w2.heap.size w2 w2.drew := (Below.refl _ _).drew
      refine wp_region_noPanic ?_
      refine wp_region_held_drew (S := fun Y => Below w2.heap.size w2 Y) (by kernel_rfl) bd (fun hH => ?_)
      generalize w2.drew = w3 at *
      refine wpAnyH_take (i := 0) (v := ?_) rfl (by kernel_rfl) (by kernel_rfl) (by kernel_rfl) (fun _ _ _ h => h) (Or.inl ⟨by rfl, ?_⟩) hH ?_
      case refine_2 => intro w hSw; go_simp; try with_reducible rfl
      try simp only [Z1, Z2, Z4, Z5, Z6, Z7]
      refine wpAnyH_take (i := 1) (v := ?_) rfl (by kernel_rfl) (by kernel_rfl) (by kernel_rfl) (fun _ _ _ h => h) (Or.inl ⟨by rfl, ?_⟩) hH ?_
      case refine_2 => intro w hSw; go_simp; try with_reducible rfl
      try simp only [Z1, Z2, Z3, Z4, Z5, Z6, Z7]
      refine wpAnyH_take (i := 2) (v := ?_) rfl (by kernel_rfl) (by kernel_rfl) (by kernel_rfl) (fun _ _ _ h => h) (Or.inl ⟨by rfl, ?_⟩) hH ?_
      case refine_2 => intro w hSw; go_simp; try with_reducible rfl
      try simp only [Z1, Z2, Z3, Z4, Z5, Z6, Z7]
      refine wpAnyH_take (i := 3) (v := ?_) rfl (by kernel_rfl) (by kernel_rfl) (by kernel_rfl) (fun _ _ _ h => h) (Or.inl ⟨by rfl, ?_⟩) hH ?_
      case refine_2 => intro w hSw; go_simp; try with_reducible rfl
      try simp only [Z1, Z2, Z3, Z4, Z5, Z6, Z7]
      refine wpAnyH_take (i := 4) (v := ?_) rfl (by kernel_rfl) (by kernel_rfl) (by kernel_rfl) (fun _ _ _ h => h) (Or.inl ⟨by rfl, ?_⟩) hH ?_
      case refine_2 => intro w hSw; have h1 : Blk w g 77 (logC (.slice A sg.length c) { l with next := nx, size := sz }) := kG2.below hSw kG2.lt; have n0 : w.cell? ⟨_, 0, none⟩ = some (.pointer (some ⟨l.disk, 0, none⟩)) := Blk.cell h1 0; clear h1 hSw; go_simp; try with_reducible rfl
      try simp only [Z1, Z2, Z3, Z4, Z5, Z6, Z7]
      refine wpAnyH_take (i := 5) (v := ?_) rfl (by kernel_rfl) (by kernel_rfl) (by kernel_rfl) (fun _ _ _ h => h) (Or.inl ⟨by rfl, ?_⟩) hH ?_
      case refine_2 => intro w hSw; go_simp; try with_reducible rfl
      try simp only [Z1, Z2, Z3, Z4, Z5, Z6, Z7]
      refine wpAnyH_take (i := 6) (v := ?_) rfl (by kernel_rfl) (by kernel_rfl) (by kernel_rfl) (fun _ _ _ h => h) (Or.inl ⟨by rfl, ?_⟩) hH ?_
      case refine_2 => intro w hSw; have h1 : Blk w at_ 82 #[.int .u64 (n : Int)] := k2.below hSw k2.lt; have n0 : w.cell? ⟨at_, 0, none⟩ = some (.int .u64 (n : Int)) := Blk.cell h1 0; clear h1 hSw; go_simp; try with_reducible rfl
      try simp only [Z1, Z2, Z3, Z4, Z5, Z6, Z7]
      refine wpAnyH_ready (rs := [7]) (by kernel_rfl) (by simp) ?_
      refine AllReadyH.cons rfl (fun K hK => ?_) AllReadyH.nil
      go_simp
      refine (TN.out w3 bd).mono ?_
      rintro en w4 ⟨rfl, b4⟩
      have bd4 := below_step' bd b4
      refine hK.out _ _ bd4 (fun hH => ?_)
      clear hK K
      try dsimp only
      try simp only [Z1, Z2, Z3, Z4, Z5, Z6, Z7]
      refine wpAnyH_ready (rs := [8]) (by kernel_rfl) (by simp) ?_
      refine AllReadyH.cons rfl (fun K hK => ?_) AllReadyH.nil
      go_simp
      refine (TR.out w4 bd4).mono ?_
      rintro en w5 ⟨A5, c5, rfl, o5, b5⟩
      have bd5 := below_step' bd4 b5
      refine hK.out _ _ bd5 (fun hH => ?_)
      clear hK K
      try dsimp only
      try simp only [Z1, Z2, Z3, Z4, Z5, Z6, Z7]
      refine wpAnyH_take (i := 9) (v := ?_) rfl (by kernel_rfl) (by kernel_rfl) (by kernel_rfl) (fun _ _ _ h => h) (Or.inl ⟨by rfl, ?_⟩) hH ?_
      case refine_2 => intro w hSw; go_simp; try with_reducible rfl
      try simp only [Z1, Z2, Z3, Z4, Z5, Z6, Z7]
      refine wpAnyH_take (i := 10) (v := ?_) rfl (by kernel_rfl) (by kernel_rfl) (by kernel_rfl) (fun _ _ _ h => h) (Or.inl ⟨by rfl, ?_⟩) hH ?_
      case refine_2 => intro w hSw; go_simp; try with_reducible rfl
      try simp only [Z1, Z2, Z3, Z4, Z5, Z6, Z7]
      refine wpAnyH_take (i := 11) (v := ?_) rfl (by kernel_rfl) (by kernel_rfl) (by kernel_rfl) (fun _ _ _ h => h) (Or.inl ⟨by rfl, ?_⟩) hH ?_
      case refine_2 => intro w hSw; go_simp; try with_reducible rfl
      try simp only [Z1, Z2, Z3, Z4, Z5, Z6, Z7]
      refine wpAnyH_take (i := 12) (v := ?_) rfl (by kernel_rfl) (by kernel_rfl) (by kernel_rfl) (fun _ _ _ h => h) (Or.inl ⟨by rfl, ?_⟩) hH ?_
      case refine_2 => intro w hSw; go_simp; try with_reducible rfl
      try simp only [Z1, Z2, Z3, Z4, Z5, Z6, Z7]
      refine wpAnyH_take (i := 13) (v := ?_) rfl (by kernel_rfl) (by kernel_rfl) (by kernel_rfl) (fun _ _ _ h => h) (Or.inl ⟨by rfl, ?_⟩) hH ?_
      case refine_2 => intro w hSw; go_simp; try with_reducible rfl
      try simp only [Z1, Z2, Z3, Z4, Z5, Z6, Z7]
      refine wpAnyH_done (by kernel_rfl) ?_ _
      refine NoPanic.normal ?_
      have hB5 : Bs w5 A5 bs := OwnB.bs o5 (Nat.le_trans hbn.2 (by decide))
      have T9 := TO.out w5 A5 c5 hB5 (OwnB.caps o5)
      have kG5 := kG2.below bd5 kG2.lt
      have sG5 := sG2.below bd5
      obtain ⟨hR5, hS5⟩ := rows_below hR2 hS2 bd5
      have bG5 := bG2.more bd5
      have kA5 := k2.below bd5 k2.lt
      have zz5 := bd5.size
      clear kG2 sG2 hR2 hS2 bG2 k2 TN TR TO hB5 o5 b5 b4 bd bd4 bd5 DD2
      go_wp2_with fail
      refine T9.mono ?_
      clear T9
      rintro en w6 ⟨A6, c6, rs6, rfl, hR6, hS6, hmap, b6⟩
      replace hmap : rs6.map (·.2.1) = tp := hmap
      have kG6 := kG5.below b6 kG5.lt
      have sG6 := sG5.below b6
      have hR56 := (rows_below hR5 hS5 b6).1
      have hS56 := hS5.more b6 hS6 (by omega)
      have bG6 := bG5.more b6
      have kA6 := kA5.below b6 kA5.lt
      have zz6 := b6.size
      have hrd6 := Reads.of_own hR6
      have HLEN : Hid (rs6.length = tp.length) := by show _ = _; rw [← hmap, List.length_map]
      have HMAP := Lib.hid hmap
      have hcnt : rs.length + rs6.length ≤ 1000000 := by have h1 := HLEN.out; have h2 := HSM2.out; rw [h1]; omega
      have hbw : w1.heap.size ≤ w6.heap.size := by omega
      clear kG5 sG5 hR5 hS5 bG5 kA5 hR6 hS6 b6 hmap
      go_upto_region 11 with (at_builtin; refine wpList_appRG w1.heap.size _ rfl (.tmp 41) (.tmp 42) rfl A2 rs c2 rfl hR56 A6 rs6 c6 rfl _ hrd6 hcnt hbw ?_; intro A7 c7 rs7 w7 H7 hR7 g7)
      have hne7 : ∀ b, (Value.slice A sg.length c).ownBlock = some b → (Value.slice A2 rs.length c2).ownBlock ≠ some b := fun b e e2 => by
        obtain ⟨cs1, h1⟩ := sG6.type e
        obtain ⟨cs2, h2⟩ := own_type hR56 e2
        exact h1.ne_ h2 (by decide) rfl
      have hS7 : Sep w1.heap.size w7 rs7 := by rw [H7.out]; exact hS56.rowO g7 hR56 (by decide)
      have kG7 := kG6.grown g7 (fun e => by have := (hrow1 g e.symm).1; omega)
      have sG7 := sG6.grown g7 hne7
      have kA7 := kA6.grown g7 (fun e => by have := (hrow1 at_ e.symm).2; omega)
      have bG7 := bG6.hi g7 (fun b e => (hrow1 b e).1)
      have zz7 := g7.size
      clear kG6 sG6 hR56 hS56 bG6 kA6 hrd6 g7 hne7
      have kk : Blk w7.drew g 77 (logC (.slice A sg.length c) { l with next := nx, size := sz }) ∧ Blk w7.drew at_ 82 #[.int .u64 (n : Int)] := ⟨kG7.drew, kA7.drew⟩
      have ba : Below w7.heap.size w7 w7.drew := (Below.refl _ _).drew
      refine wp_region_noPanic ?_
      refine wp_region_heldK (fun Y => Blk Y g 77 (logC (.slice A sg.length c) { l with next := nx, size := sz }) ∧ Blk Y at_ 82 #[.int .u64 (n : Int)]) 10 (by kernel_rfl) kk (fun hH => ?_)
      generalize w7.drew = wa at *
      refine wpAnyK_take (i := 0) (v := ?_) rfl (by kernel_rfl) (by kernel_rfl) (by kernel_rfl) (by kernel_rfl) (fun _ _ _ h => h) (Or.inl ⟨by rfl, ?_⟩) hH ?_
      case refine_2 => intro w hSw; go_simp; try with_reducible rfl
      try simp only [Z1, Z2, Z4, Z5, Z6, Z7]
      refine wpAnyK_take (i := 1) (v := ?_) rfl (by kernel_rfl) (by kernel_rfl) (by kernel_rfl) (by kernel_rfl) (fun _ _ _ h => h) (Or.inl ⟨by rfl, ?_⟩) hH ?_
      case refine_2 => intro w hSw; go_simp; try with_reducible rfl
      try simp only [Z1, Z2, Z3, Z4, Z5, Z6, Z7]
      refine wpAnyK_take (i := 2) (v := ?_) rfl (by kernel_rfl) (by kernel_rfl) (by kernel_rfl) (by kernel_rfl) (fun _ _ _ h => h) (Or.inl ⟨by rfl, ?_⟩) hH ?_
      case refine_2 => intro w hSw; go_simp; try with_reducible rfl
      try simp only [Z1, Z2, Z3, Z4, Z5, Z6, Z7]
      refine wpAnyK_take (i := 3) (v := ?_) rfl (by kernel_rfl) (by kernel_rfl) (by kernel_rfl) (by kernel_rfl) (fun _ _ _ h => h) (Or.inl ⟨by rfl, ?_⟩) hH ?_
      case refine_2 => intro w hSw; go_simp; try with_reducible rfl
      try simp only [Z1, Z2, Z3, Z4, Z5, Z6, Z7]
      refine wpAnyK_take (i := 4) (v := ?_) rfl (by kernel_rfl) (by kernel_rfl) (by kernel_rfl) (by kernel_rfl) (fun _ _ _ h => h) (Or.inl ⟨by rfl, ?_⟩) hH ?_
      case refine_2 => intro w hSw; have h1 : Blk w g 77 (logC (.slice A sg.length c) { l with next := nx, size := sz }) := hSw.1; have n3 : w.cell? ⟨g, 3, none⟩ = some (.slice A sg.length c) := Blk.cell h1 3; clear h1 hSw; go_simp; try with_reducible rfl
      try simp only [Z1, Z2, Z3, Z4, Z5, Z6, Z7]
      refine wpAnyK_take (i := 5) (v := ?_) rfl (by kernel_rfl) (by kernel_rfl) (by kernel_rfl) (by kernel_rfl) (fun _ _ _ h => h) (Or.inl ⟨by rfl, ?_⟩) hH ?_
      case refine_2 => intro w hSw; have h1 : Blk w at_ 82 #[.int .u64 (n : Int)] := hSw.2; have n0 : w.cell? ⟨at_, 0, none⟩ = some (.int .u64 (n : Int)) := Blk.cell h1 0; clear h1 hSw; go_simp; try with_reducible rfl
      try simp only [Z1, Z2, Z3, Z4, Z5, Z6, Z7]
      refine wpAnyK_ready (rs := [6]) (by kernel_rfl) (by simp) ?_
      refine AllReadyK.cons rfl (by kernel_rfl) (fun K hK => ?_) AllReadyK.nil
      go_simp
      change K _ (wa.alloc (.cells #[.int .u64 (n : Int)] 82))
      have d9 : Below wa.heap.size wa (wa.alloc (.cells #[.int .u64 (n : Int)] 82)) := (Below.refl _ _).alloc (Nat.le_refl _) _
      have hrN : Reads (wa.alloc (.cells #[.int .u64 (n : Int)] 82)) (wa.heap.size + 1) 1 (some ⟨wa.heap.size, 0, none⟩) 1 [segV n] := Reads.newN wa [segV n] 82
      have b9 := below_step' ba d9
      have k9 := kG7.below b9 kG7.lt
      have s9 := sG7.below b9
      have ka9 := kA7.below b9 kA7.lt
      obtain ⟨hR9, hS9⟩ := rows_below hR7 hS7 b9
      have bG9 := bG7.more b9
      have zz9 := b9.size
      generalize (wa.alloc (.cells #[.int .u64 (n : Int)] 82)) = wb at *
      have kkb : Blk wb g 77 (logC (.slice A sg.length c) { l with next := nx, size := sz }) ∧ Blk wb at_ 82 #[.int .u64 (n : Int)] := ⟨k9, ka9⟩
      clear kG7 sG7 hR7 hS7 bG7 kA7 kk
      refine hK.out _ _ kkb ?_
      clear hK K
      try dsimp only
      try simp only [Z1, Z2, Z3, Z4, Z5, Z6, Z7]
      refine wpAnyK_ready (rs := [7]) (by kernel_rfl) (by simp) ?_
      refine AllReadyK.cons rfl (by kernel_rfl) (fun K hK => ?_) AllReadyK.nil
      refine step_append_seg rfl (.tmp 48) (.tmp 50) rfl _ sg rfl s9 (some ⟨wa.heap.size, 0, none⟩) 1 _ n rfl hrN hn64 (by have h1 := HSL.out; rw [h1]; have := HAL.out; omega) ?_
      intro A' c' sg' wd HSG sAt gB tB
      have kd := k9.grown gB (fun e => by have := (hrow2 g e.symm).1; omega)
      have kad := ka9.grown gB (fun e => by have := (hrow2 at_ e.symm).2; omega)
      obtain ⟨hRd, hSd⟩ := rows_grown hR9 hS9 gB (fun x hx => rows_seg hR9 hS9 s9 hx)
      have bGd := bG9.hi gB (fun b e => (hrow2 b e).1)
      have HROW2 : Hid (∀ b, (Value.slice A' sg'.length c').ownBlock = some b → w1.heap.size ≤ b) := fun b e => by
        rcases tB with t | t
        · exact (hrow2 b (t.symm.trans e)).1
        · have := Option.some.inj (t.symm.trans e); omega
      have zzd := gB.size
      have kkd : Blk wd g 77 (logC (.slice A sg.length c) { l with next := nx, size := sz }) ∧ Blk wd at_ 82 #[.int .u64 (n : Int)] := ⟨kd, kad⟩
      clear kkb ba d9 hrN b9 s9 tB ka9 k9 hR9 hS9 bG9 gB
      refine hK.out _ _ kkd ?_
      clear hK K
      try dsimp only
      try simp only [Z1, Z2, Z3, Z4, Z5, Z6, Z7]
      refine wpAnyK_take (i := 8) (v := ?_) rfl (by kernel_rfl) (by kernel_rfl) (by kernel_rfl) (by kernel_rfl) (fun _ _ _ h => h) (Or.inl ⟨by rfl, ?_⟩) kkd ?_
      case refine_2 => intro w hSw; go_simp; try with_reducible rfl
      try simp only [Z1, Z2, Z3, Z4, Z5, Z6, Z7]
      refine wpAnyK_take (i := 9) (v := ?_) rfl (by kernel_rfl) (by kernel_rfl) (by kernel_rfl) (by kernel_rfl) (fun _ _ _ h => h) (Or.inl ⟨by rfl, ?_⟩) kkd ?_
      case refine_2 => intro w hSw; go_simp; try with_reducible rfl
      try simp only [Z1, Z2, Z3, Z4, Z5, Z6, Z7]
      refine wpAnyK_ready (rs := [10]) (by kernel_rfl) (by simp) ?_
      refine AllReadyK.turn rfl (fun K hK => ?_) AllReadyK.nil
      have y3 : wd.cell? ⟨g, 3, none⟩ = some (.slice A sg.length c) := kd.cell 3
      have f3 : wd.frozen? ⟨g, 3, none⟩ = false := kd.frozen 3
      go_simp
      refine hK.out _ _ ?_
      clear hK K hH y3 f3
      try simp only [Z1, Z3, Z2, Z4]
      refine wpAny_done (by kernel_rfl) ?_ _
      refine NoPanic.normal ?_
      have ge : wd.grownBy (wd.setCell ⟨g, 3, none⟩ (.slice A' sg'.length c')) (some g) := only_setCell (World.grownBy.refl wd _) (.inl rfl) _
      have k3 := kd.set_ 3 (.slice A' sg'.length c')
      generalize (wd.setCell ⟨g, 3, none⟩ (.slice A' sg'.length c')) = we at *
      have y4 : we.cell? ⟨g, 4, none⟩ = some (.int .u64 (nx : Int)) := k3.cell 4
      have f4 : we.frozen? ⟨g, 4, none⟩ = false := k3.frozen 4
      have y5 : we.cell? ⟨g, 5, none⟩ = some (.int .i64 sz) := k3.cell 5
      have f5 : we.frozen? ⟨g, 5, none⟩ = false := k3.frozen 5
      have kae := kad.grown ge (fun e => by have := Option.some.inj e; omega)
      have ya : we.cell? ⟨at_, 0, none⟩ = some (.int .u64 (n : Int)) := kae.cell 0
      have v1 : IntKind.u64.wrap (rs6.length : Int) = (rs6.length : Int) := by simp [IntKind.wrap, IntKind.bits, IntKind.signed]; omega
      have v2 : IntKind.u64.wrap ((n : Int) + (rs6.length : Int)) = (n : Int) + (rs6.length : Int) := by have := hbn.1; simp [IntKind.wrap, IntKind.bits, IntKind.signed]; omega
      go_upto_region 13 with fail
      clear y4 f4 y5 f5 ya v1 v2 kae
      have gf : wd.grownBy ((we.setCell ⟨g, 4, none⟩ (.int .u64 ((n : Int) + (rs6.length : Int)))).setCell ⟨g, 5, none⟩ (.int .i64 (te : Int))) (some g) := only_setCell (only_setCell ge (.inl rfl) _) (.inl rfl) _
      have kf : Blk ((we.setCell ⟨g, 4, none⟩ (.int .u64 ((n : Int) + (rs6.length : Int)))).setCell ⟨g, 5, none⟩ (.int .i64 (te : Int))) g 77 (logC (.slice A' sg'.length c') { l with next := n + tp.length, size := (te : Int) }) := by
        have h := (k3.set_ 4 (.int .u64 ((n : Int) + (rs6.length : Int)))).set_ 5 (.int .i64 (te : Int))
        rw [HLEN.out] at h ⊢
        exact h
      generalize ((we.setCell ⟨g, 4, none⟩ (.int .u64 ((n : Int) + (rs6.length : Int)))).setCell ⟨g, 5, none⟩ (.int .i64 (te : Int))) = wf at *
      have sf := sAt.grown gf (fun b e e2 => by have h1 := HROW2.out b e; have := Option.some.inj e2; omega)
      obtain ⟨hRf, hSf⟩ := rows_grown hRd hSd gf (fun x hx e => by have h1 := (rows_lt hRd hSd hx).1; have := Option.some.inj e; omega)
      have bGf : BlP (fun x => x ≠ g) w1 wf := bGd.grown gf (fun b e h => h (Option.some.inj e).symm)
      have zzf := gf.size
      clear kd kad kkd hRd hSd bGd gf ge k3 sAt hrow1 hrow2
      obtain ⟨tb, htb⟩ : ∃ tb, tb = decide (te < bs.length ∨ (all.drop (k + 1) ≠ [] ∧ (all.drop (k + 1)).headD 0 ≠ n + tp.length)) := ⟨_, rfl⟩
      have HTB := Lib.hid htb
      clear htb
      have F1 : Hid (te < bs.length → (te : Int) < (bs.length : Int) ∧ tb = true) := fun h1 => ⟨by omega, by rw [HTB.out]; exact decide_eq_true (.inl h1)⟩
      have F2 : Hid (¬ te < bs.length → ¬ (te : Int) < (bs.length : Int)) := fun h1 => by omega
      have F3 : Hid (¬ te < bs.length → k + 1 < all.length → ∃ m2 : Nat, (k : Int) + 1 < (all.length : Int) ∧ (0 : Int) ≤ (k : Int) + 1 ∧ (∀ W, Below wf.heap.size wf W → W.cell? ⟨ad.block, ad.off + (k + 1), none⟩ = some (.int .u64 (m2 : Int))) ∧ ((m2 : Int) != ((n + tp.length : Nat) : Int)) = tb) := fun h1 h2 => by
        refine ⟨all[k + 1], by omega, by omega, fun W hW => ?_, ?_⟩
        · have bGW := bGf.more hW
          obtain ⟨ad', e, h, _⟩ := SegE.at_ (HSB.out.same (w' := W) ⟨bGW.size, fun b h1 h2 => bGW.block b h2 (fun e => by omega)⟩) h2
          obtain rfl := Option.some.inj e
          have ea : ad.add (k + 1) = ⟨ad.block, ad.off + (k + 1), none⟩ := by unfold Addr.add; simp
          rw [ea] at h
          exact h
        · rw [HTB.out, List.drop_eq_getElem_cons h2]
          by_cases h3 : all[k + 1] = n + tp.length
          · rw [decide_eq_false (by simp [h1, h3]), h3]; simp
          · rw [decide_eq_true (Or.inr ⟨List.cons_ne_nil _ _, h3⟩)]; rw [bne_iff_ne]; omega
      have F4 : Hid (¬ te < bs.length → ¬ k + 1 < all.length → ¬ (k : Int) + 1 < (all.length : Int) ∧ tb = false) := fun h1 h2 => by
        refine ⟨by omega, ?_⟩
        rw [HTB.out, List.drop_eq_nil_of_le (by omega)]
        simp [h1]
      go_cut [90] from 67 to 90 (fun v wx => v = .bool tb ∧ Below wf.heap.size wf wx)
      case first =>
        by_cases h1 : te < bs.length
        · obtain ⟨h1i, HE⟩ := F1.out h1
          clear F1 F2 F3 F4 hRf hSf bGf sf HX2 HSM2 HLEN HMAP H7 HSG HRD HREST
          have kd : Below wf.heap.size wf wf.drew := (Below.refl _ _).drew
          refine wp_region_noPanic ?_
          refine wp_region_held_drew (S := fun Y => Below wf.heap.size wf Y) (by kernel_rfl) kd (fun hH => ?_)
          generalize wf.drew = wg at *
          refine wpAnyH_take (i := 0) (v := ?_) rfl (by kernel_rfl) (by kernel_rfl) (by kernel_rfl) (fun _ _ _ h => h) (Or.inl ⟨by rfl, ?_⟩) hH ?_
          case refine_2 => intro w hSw; go_simp; try with_reducible rfl
          try simp only [Z1, Z2, Z4, Z5, Z6, Z7]
          refine wpAnyH_take (i := 1) (v := ?_) rfl (by kernel_rfl) (by kernel_rfl) (by kernel_rfl) (fun _ _ _ h => h) (Or.inl ⟨by rfl, ?_⟩) hH ?_
          case refine_2 => intro w hSw; go_simp; try with_reducible rfl
          try simp only [Z1, Z2, Z3, Z4, Z5, Z6, Z7]
          refine wpAnyH_take (i := 2) (v := ?_) rfl (by kernel_rfl) (by kernel_rfl) (by kernel_rfl) (fun _ _ _ h => h) (Or.inl ⟨by rfl, ?_⟩) hH ?_
          case refine_2 => intro w hSw; go_simp; try with_reducible rfl
          try simp only [Z1, Z2, Z3, Z4, Z5, Z6, Z7]
          refine wpAnyH_take (i := 3) (v := ?_) rfl (by kernel_rfl) (by kernel_rfl) (by kernel_rfl) (fun _ _ _ h => h) (Or.inl ⟨by rfl, ?_⟩) hH ?_
          case refine_2 => intro w hSw; go_simp; try with_reducible rfl
          try simp only [Z1, Z2, Z3, Z4, Z5, Z6, Z7]
          refine wpAnyH_take (i := 4) (v := ?_) rfl (by kernel_rfl) (by kernel_rfl) (by kernel_rfl) (fun _ _ _ h => h) (Or.inl ⟨by rfl, ?_⟩) hH ?_
          case refine_2 => intro w hSw; go_simp; try with_reducible rfl
          try simp only [Z1, Z2, Z3, Z4, Z5, Z6, Z7]
          refine wpAnyH_take (i := 5) (v := undef) rfl (by kernel_rfl) (by kernel_rfl) (by kernel_rfl) (fun _ _ _ h => h) (Or.inr ⟨by rfl, rfl⟩) hH ?_
          try simp only [Z1, Z2, Z3, Z4, Z5, Z6, Z7]
          refine wpAnyH_take (i := 6) (v := undef) rfl (by kernel_rfl) (by kernel_rfl) (by kernel_rfl) (fun _ _ _ h => h) (Or.inr ⟨by rfl, rfl⟩) hH ?_
          try simp only [Z1, Z2, Z3, Z4, Z5, Z6, Z7]
          refine wpAnyH_take (i := 7) (v := undef) rfl (by kernel_rfl) (by kernel_rfl) (by kernel_rfl) (fun _ _ _ h => h) (Or.inr ⟨by rfl, rfl⟩) hH ?_
          try simp only [Z1, Z2, Z3, Z4, Z5, Z6, Z7]
          refine wpAnyH_take (i := 8) (v := undef) rfl (by kernel_rfl) (by kernel_rfl) (by kernel_rfl) (fun _ _ _ h => h) (Or.inr ⟨by rfl, rfl⟩) hH ?_
          try simp only [Z1, Z2, Z3, Z4, Z5, Z6, Z7]
          refine wpAnyH_take (i := 9) (v := undef) rfl (by kernel_rfl) (by kernel_rfl) (by kernel_rfl) (fun _ _ _ h => h) (Or.inr ⟨by rfl, rfl⟩) hH ?_
          try simp only [Z1, Z2, Z3, Z4, Z5, Z6, Z7]
          refine wpAnyH_take (i := 10) (v := undef) rfl (by kernel_rfl) (by kernel_rfl) (by kernel_rfl) (fun _ _ _ h => h) (Or.inr ⟨by rfl, rfl⟩) hH ?_
          try simp only [Z1, Z2, Z3, Z4, Z5, Z6, Z7]
          refine wpAnyH_take (i := 11) (v := undef) rfl (by kernel_rfl) (by kernel_rfl) (by kernel_rfl) (fun _ _ _ h => h) (Or.inr ⟨by rfl, rfl⟩) hH ?_
          try simp only [Z1, Z2, Z3, Z4, Z5, Z6, Z7]
          refine wpAnyH_take (i := 12) (v := undef) rfl (by kernel_rfl) (by kernel_rfl) (by kernel_rfl) (fun _ _ _ h => h) (Or.inr ⟨by rfl, rfl⟩) hH ?_
          try simp only [Z1, Z2, Z3, Z4, Z5, Z6, Z7]
          refine wpAnyH_take (i := 13) (v := undef) rfl (by kernel_rfl) (by kernel_rfl) (by kernel_rfl) (fun _ _ _ h => h) (Or.inr ⟨by rfl, rfl⟩) hH ?_
          try simp only [Z1, Z2, Z3, Z4, Z5, Z6, Z7]
          refine wpAnyH_take (i := 14) (v := undef) rfl (by kernel_rfl) (by kernel_rfl) (by kernel_rfl) (fun _ _ _ h => h) (Or.inr ⟨by rfl, rfl⟩) hH ?_
          try simp only [Z1, Z2, Z3, Z4, Z5, Z6, Z7]
          refine wpAnyH_take (i := 15) (v := undef) rfl (by kernel_rfl) (by kernel_rfl) (by kernel_rfl) (fun _ _ _ h => h) (Or.inr ⟨by rfl, rfl⟩) hH ?_
          try simp only [Z1, Z2, Z3, Z4, Z5, Z6, Z7]
          refine wpAnyH_take (i := 16) (v := undef) rfl (by kernel_rfl) (by kernel_rfl) (by kernel_rfl) (fun _ _ _ h => h) (Or.inr ⟨by rfl, rfl⟩) hH ?_
          try simp only [Z1, Z2, Z3, Z4, Z5, Z6, Z7]
          refine wpAnyH_take (i := 17) (v := undef) rfl (by kernel_rfl) (by kernel_rfl) (by kernel_rfl) (fun _ _ _ h => h) (Or.inr ⟨by rfl, rfl⟩) hH ?_
          try simp only [Z1, Z2, Z3, Z4, Z5, Z6, Z7]
          refine wpAnyH_take (i := 18) (v := undef) rfl (by kernel_rfl) (by kernel_rfl) (by kernel_rfl) (fun _ _ _ h => h) (Or.inr ⟨by rfl, rfl⟩) hH ?_
          try simp only [Z1, Z2, Z3, Z4, Z5, Z6, Z7]
          refine wpAnyH_take (i := 19) (v := undef) rfl (by kernel_rfl) (by kernel_rfl) (by kernel_rfl) (fun _ _ _ h => h) (Or.inr ⟨by rfl, rfl⟩) hH ?_
          try simp only [Z1, Z2, Z3, Z4, Z5, Z6, Z7]
          refine wpAnyH_take (i := 20) (v := undef) rfl (by kernel_rfl) (by kernel_rfl) (by kernel_rfl) (fun _ _ _ h => h) (Or.inr ⟨by rfl, rfl⟩) hH ?_
          try simp only [Z1, Z2, Z3, Z4, Z5, Z6, Z7]
          refine wpAnyH_take (i := 21) (v := undef) rfl (by kernel_rfl) (by kernel_rfl) (by kernel_rfl) (fun _ _ _ h => h) (Or.inr ⟨by rfl, rfl⟩) hH ?_
          try simp only [Z1, Z2, Z3, Z4, Z5, Z6, Z7]
          refine wpAnyH_take (i := 22) (v := undef) rfl (by kernel_rfl) (by kernel_rfl) (by kernel_rfl) (fun _ _ _ h => h) (Or.inr ⟨by rfl, rfl⟩) hH ?_
          try simp only [Z1, Z2, Z3, Z4, Z5, Z6, Z7]
          refine wpAnyH_take (i := 23) (v := ?_) rfl (by kernel_rfl) (by kernel_rfl) (by kernel_rfl) (fun _ _ _ h => h) (Or.inl ⟨by rfl, ?_⟩) hH ?_
          case refine_2 => intro w hSw; go_simp; try with_reducible rfl
          try simp only [Z1, Z2, Z3, Z4, Z5, Z6, Z7]
          refine wpAnyH_done (by kernel_rfl) ?_ _
          refine NoPanic.normal ?_
          go_wp2_with fail
          go_meet
          case rel => first | exact ⟨congrArg Value.bool HE.symm, kd⟩ | exact ⟨congrArg Value.bool hbn2, kd⟩
        · have h1i := F2.out h1
          have hvw := HVW2.out
          by_cases h2 : k + 1 < all.length
          · obtain ⟨m2, h2i, h0k, HC, hbn2⟩ := F3.out h1 h2
            have HCE := Lib.hid HC
            clear F1 F2 F3 F4 hRf hSf bGf sf HX2 HSM2 HLEN HMAP H7 HSG HRD HREST HC
            have kd : Below wf.heap.size wf wf.drew := (Below.refl _ _).drew
            refine wp_region_noPanic ?_
            refine wp_region_held_drew (S := fun Y => Below wf.heap.size wf Y) (by kernel_rfl) kd (fun hH => ?_)
            generalize wf.drew = wg at *
            refine wpAnyH_take (i := 0) (v := ?_) rfl (by kernel_rfl) (by kernel_rfl) (by kernel_rfl) (fun _ _ _ h => h) (Or.inl ⟨by rfl, ?_⟩) hH ?_
            case refine_2 => intro w hSw; go_simp; try with_reducible rfl
            try simp only [Z1, Z2, Z4, Z5, Z6, Z7]
            refine wpAnyH_take (i := 1) (v := ?_) rfl (by kernel_rfl) (by kernel_rfl) (by kernel_rfl) (fun _ _ _ h => h) (Or.inl ⟨by rfl, ?_⟩) hH ?_
            case refine_2 => intro w hSw; go_simp; try with_reducible rfl
            try simp only [Z1, Z2, Z3, Z4, Z5, Z6, Z7]
            refine wpAnyH_take (i := 2) (v := ?_) rfl (by kernel_rfl) (by kernel_rfl) (by kernel_rfl) (fun _ _ _ h => h) (Or.inl ⟨by rfl, ?_⟩) hH ?_
            case refine_2 => intro w hSw; go_simp; try with_reducible rfl
            try simp only [Z1, Z2, Z3, Z4, Z5, Z6, Z7]
            refine wpAnyH_take (i := 3) (v := ?_) rfl (by kernel_rfl) (by kernel_rfl) (by kernel_rfl) (fun _ _ _ h => h) (Or.inl ⟨by rfl, ?_⟩) hH ?_
            case refine_2 => intro w hSw; go_simp; try with_reducible rfl
            try simp only [Z1, Z2, Z3, Z4, Z5, Z6, Z7]
            refine wpAnyH_take (i := 4) (v := ?_) rfl (by kernel_rfl) (by kernel_rfl) (by kernel_rfl) (fun _ _ _ h => h) (Or.inl ⟨by rfl, ?_⟩) hH ?_
            case refine_2 => intro w hSw; go_simp; try with_reducible rfl
            try simp only [Z1, Z2, Z3, Z4, Z5, Z6, Z7]
            refine wpAnyH_take (i := 5) (v := ?_) rfl (by kernel_rfl) (by kernel_rfl) (by kernel_rfl) (fun _ _ _ h => h) (Or.inl ⟨by rfl, ?_⟩) hH ?_
            case refine_2 => intro w hSw; go_simp; try with_reducible rfl
            try simp only [Z1, Z2, Z3, Z4, Z5, Z6, Z7]
            refine wpAnyH_take (i := 6) (v := ?_) rfl (by kernel_rfl) (by kernel_rfl) (by kernel_rfl) (fun _ _ _ h => h) (Or.inl ⟨by rfl, ?_⟩) hH ?_
            case refine_2 => intro w hSw; go_simp; try with_reducible rfl
            try simp only [Z1, Z2, Z3, Z4, Z5, Z6, Z7]
            refine wpAnyH_take (i := 7) (v := ?_) rfl (by kernel_rfl) (by kernel_rfl) (by kernel_rfl) (fun _ _ _ h => h) (Or.inl ⟨by rfl, ?_⟩) hH ?_
            case refine_2 => intro w hSw; go_simp; try with_reducible rfl
            try simp only [Z1, Z2, Z3, Z4, Z5, Z6, Z7]
            refine wpAnyH_take (i := 8) (v := ?_) rfl (by kernel_rfl) (by kernel_rfl) (by kernel_rfl) (fun _ _ _ h => h) (Or.inl ⟨by rfl, ?_⟩) hH ?_
            case refine_2 => intro w hSw; go_simp; try with_reducible rfl
            try simp only [Z1, Z2, Z3, Z4, Z5, Z6, Z7]
            refine wpAnyH_take (i := 9) (v := ?_) rfl (by kernel_rfl) (by kernel_rfl) (by kernel_rfl) (fun _ _ _ h => h) (Or.inl ⟨by rfl, ?_⟩) hH ?_
            case refine_2 => intro w hSw; go_simp; try with_reducible rfl
            try simp only [Z1, Z2, Z3, Z4, Z5, Z6, Z7]
            refine wpAnyH_take (i := 10) (v := ?_) rfl (by kernel_rfl) (by kernel_rfl) (by kernel_rfl) (fun _ _ _ h => h) (Or.inl ⟨by rfl, ?_⟩) hH ?_
            case refine_2 => intro w hSw; go_simp; try with_reducible rfl
            try simp only [Z1, Z2, Z3, Z4, Z5, Z6, Z7]
            refine wpAnyH_take (i := 11) (v := ?_) rfl (by kernel_rfl) (by kernel_rfl) (by kernel_rfl) (fun _ _ _ h => h) (Or.inl ⟨by rfl, ?_⟩) hH ?_
            case refine_2 => intro w hSw; go_simp; try with_reducible rfl
            try simp only [Z1, Z2, Z3, Z4, Z5, Z6, Z7]
            refine wpAnyH_take (i := 12) (v := ?_) rfl (by kernel_rfl) (by kernel_rfl) (by kernel_rfl) (fun _ _ _ h => h) (Or.inl ⟨by rfl, ?_⟩) hH ?_
            case refine_2 => intro w hSw; go_simp; try with_reducible rfl
            try simp only [Z1, Z2, Z3, Z4, Z5, Z6, Z7]
            refine wpAnyH_take (i := 13) (v := ?_) rfl (by kernel_rfl) (by kernel_rfl) (by kernel_rfl) (fun _ _ _ h => h) (Or.inl ⟨by rfl, ?_⟩) hH ?_
            case refine_2 => intro w hSw; go_simp; try with_reducible rfl
            try simp only [Z1, Z2, Z3, Z4, Z5, Z6, Z7]
            refine wpAnyH_take (i := 14) (v := ?_) rfl (by kernel_rfl) (by kernel_rfl) (by kernel_rfl) (fun _ _ _ h => h) (Or.inl ⟨by rfl, ?_⟩) hH ?_
            case refine_2 => intro w hSw; go_simp; try with_reducible rfl
            try simp only [Z1, Z2, Z3, Z4, Z5, Z6, Z7]
            refine wpAnyH_take (i := 15) (v := ?_) rfl (by kernel_rfl) (by kernel_rfl) (by kernel_rfl) (fun _ _ _ h => h) (Or.inl ⟨by rfl, ?_⟩) hH ?_
            case refine_2 => intro w hSw; go_simp; try with_reducible rfl
            try simp only [Z1, Z2, Z3, Z4, Z5, Z6, Z7]
            refine wpAnyH_take (i := 16) (v := ?_) rfl (by kernel_rfl) (by kernel_rfl) (by kernel_rfl) (fun _ _ _ h => h) (Or.inl ⟨by rfl, ?_⟩) hH ?_
            case refine_2 => intro w hSw; have h1 := HCE.out w hSw; clear hSw; go_simp; try with_reducible rfl
            try simp only [Z1, Z2, Z3, Z4, Z5, Z6, Z7]
            refine wpAnyH_take (i := 17) (v := ?_) rfl (by kernel_rfl) (by kernel_rfl) (by kernel_rfl) (fun _ _ _ h => h) (Or.inl ⟨by rfl, ?_⟩) hH ?_
            case refine_2 => intro w hSw; go_simp; try with_reducible rfl
            try simp only [Z1, Z2, Z3, Z4, Z5, Z6, Z7]
            refine wpAnyH_take (i := 18) (v := ?_) rfl (by kernel_rfl) (by kernel_rfl) (by kernel_rfl) (fun _ _ _ h => h) (Or.inl ⟨by rfl, ?_⟩) hH ?_
            case refine_2 => intro w hSw; go_simp; try with_reducible rfl
            try simp only [Z1, Z2, Z3, Z4, Z5, Z6, Z7]
            refine wpAnyH_take (i := 19) (v := ?_) rfl (by kernel_rfl) (by kernel_rfl) (by kernel_rfl) (fun _ _ _ h => h) (Or.inl ⟨by rfl, ?_⟩) hH ?_
            case refine_2 => intro w hSw; go_simp; try with_reducible rfl
            try simp only [Z1, Z2, Z3, Z4, Z5, Z6, Z7]
            refine wpAnyH_take (i := 20) (v := ?_) rfl (by kernel_rfl) (by kernel_rfl) (by kernel_rfl) (fun _ _ _ h => h) (Or.inl ⟨by rfl, ?_⟩) hH ?_
            case refine_2 => intro w hSw; have h1 : Blk w g 77 (logC (.slice A' sg'.length c') { l with next := n + tp.length, size := (te : Int) }) := kf.below hSw kf.lt; have n4 : w.cell? ⟨_, 4, none⟩ = some (.int .u64 ((n + tp.length : Nat) : Int)) := Blk.cell h1 4; clear h1 hSw; go_simp; try with_reducible rfl
            try simp only [Z1, Z2, Z3, Z4, Z5, Z6, Z7]
            refine wpAnyH_take (i := 21) (v := ?_) rfl (by kernel_rfl) (by kernel_rfl) (by kernel_rfl) (fun _ _ _ h => h) (Or.inl ⟨by rfl, ?_⟩) hH ?_
            case refine_2 => intro w hSw; go_simp; try with_reducible rfl
            try simp only [Z1, Z2, Z3, Z4, Z5, Z6, Z7]
            refine wpAnyH_take (i := 22) (v := ?_) rfl (by kernel_rfl) (by kernel_rfl) (by kernel_rfl) (fun _ _ _ h => h) (Or.inl ⟨by rfl, ?_⟩) hH ?_
            case refine_2 => intro w hSw; go_simp; try with_reducible rfl
            try simp only [Z1, Z2, Z3, Z4, Z5, Z6, Z7]
            refine wpAnyH_take (i := 23) (v := ?_) rfl (by kernel_rfl) (by kernel_rfl) (by kernel_rfl) (fun _ _ _ h => h) (Or.inl ⟨by rfl, ?_⟩) hH ?_
            case refine_2 => intro w hSw; go_simp; try with_reducible rfl
            try simp only [Z1, Z2, Z3, Z4, Z5, Z6, Z7]
            refine wpAnyH_done (by kernel_rfl) ?_ _
            refine NoPanic.normal ?_
            go_wp2_with fail
            go_meet
            case rel => first | exact ⟨congrArg Value.bool HE.symm, kd⟩ | exact ⟨congrArg Value.bool hbn2, kd⟩
          · obtain ⟨h2i, HE⟩ := F4.out h1 h2
            clear F1 F2 F3 F4 hRf hSf bGf sf HX2 HSM2 HLEN HMAP H7 HSG HRD HREST
            have kd : Below wf.heap.size wf wf.drew := (Below.refl _ _).drew
            refine wp_region_noPanic ?_
            refine wp_region_held_drew (S := fun Y => Below wf.heap.size wf Y) (by kernel_rfl) kd (fun hH => ?_)
            generalize wf.drew = wg at *
            refine wpAnyH_take (i := 0) (v := ?_) rfl (by kernel_rfl) (by kernel_rfl) (by kernel_rfl) (fun _ _ _ h => h) (Or.inl ⟨by rfl, ?_⟩) hH ?_
            case refine_2 => intro w hSw; go_simp; try with_reducible rfl
            try simp only [Z1, Z2, Z4, Z5, Z6, Z7]
            refine wpAnyH_take (i := 1) (v := ?_) rfl (by kernel_rfl) (by kernel_rfl) (by kernel_rfl) (fun _ _ _ h => h) (Or.inl ⟨by rfl, ?_⟩) hH ?_
            case refine_2 => intro w hSw; go_simp; try with_reducible rfl
            try simp only [Z1, Z2, Z3, Z4, Z5, Z6, Z7]
            refine wpAnyH_take (i := 2) (v := ?_) rfl (by kernel_rfl) (by kernel_rfl) (by kernel_rfl) (fun _ _ _ h => h) (Or.inl ⟨by rfl, ?_⟩) hH ?_
            case refine_2 => intro w hSw; go_simp; try with_reducible rfl
            try simp only [Z1, Z2, Z3, Z4, Z5, Z6, Z7]
            refine wpAnyH_take (i := 3) (v := ?_) rfl (by kernel_rfl) (by kernel_rfl) (by kernel_rfl) (fun _ _ _ h => h) (Or.inl ⟨by rfl, ?_⟩) hH ?_
            case refine_2 => intro w hSw; go_simp; try with_reducible rfl
            try simp only [Z1, Z2, Z3, Z4, Z5, Z6, Z7]
            refine wpAnyH_take (i := 4) (v := ?_) rfl (by kernel_rfl) (by kernel_rfl) (by kernel_rfl) (fun _ _ _ h => h) (Or.inl ⟨by rfl, ?_⟩) hH ?_
            case refine_2 => intro w hSw; go_simp; try with_reducible rfl
            try simp only [Z1, Z2, Z3, Z4, Z5, Z6, Z7]
            refine wpAnyH_take (i := 5) (v := ?_) rfl (by kernel_rfl) (by kernel_rfl) (by kernel_rfl) (fun _ _ _ h => h) (Or.inl ⟨by rfl, ?_⟩) hH ?_
            case refine_2 => intro w hSw; go_simp; try with_reducible rfl
            try simp only [Z1, Z2, Z3, Z4, Z5, Z6, Z7]
            refine wpAnyH_take (i := 6) (v := ?_) rfl (by kernel_rfl) (by kernel_rfl) (by kernel_rfl) (fun _ _ _ h => h) (Or.inl ⟨by rfl, ?_⟩) hH ?_
            case refine_2 => intro w hSw; go_simp; try with_reducible rfl
            try simp only [Z1, Z2, Z3, Z4, Z5, Z6, Z7]
            refine wpAnyH_take (i := 7) (v := ?_) rfl (by kernel_rfl) (by kernel_rfl) (by kernel_rfl) (fun _ _ _ h => h) (Or.inl ⟨by rfl, ?_⟩) hH ?_
            case refine_2 => intro w hSw; go_simp; try with_reducible rfl
            try simp only [Z1, Z2, Z3, Z4, Z5, Z6, Z7]
            refine wpAnyH_take (i := 8) (v := ?_) rfl (by kernel_rfl) (by kernel_rfl) (by kernel_rfl) (fun _ _ _ h => h) (Or.inl ⟨by rfl, ?_⟩) hH ?_
            case refine_2 => intro w hSw; go_simp; try with_reducible rfl
            try simp only [Z1, Z2, Z3, Z4, Z5, Z6, Z7]
            refine wpAnyH_take (i := 9) (v := ?_) rfl (by kernel_rfl) (by kernel_rfl) (by kernel_rfl) (fun _ _ _ h => h) (Or.inl ⟨by rfl, ?_⟩) hH ?_
            case refine_2 => intro w hSw; go_simp; try with_reducible rfl
            try simp only [Z1, Z2, Z3, Z4, Z5, Z6, Z7]
            refine wpAnyH_take (i := 10) (v := ?_) rfl (by kernel_rfl) (by kernel_rfl) (by kernel_rfl) (fun _ _ _ h => h) (Or.inl ⟨by rfl, ?_⟩) hH ?_
            case refine_2 => intro w hSw; go_simp; try with_reducible rfl
            try simp only [Z1, Z2, Z3, Z4, Z5, Z6, Z7]
            refine wpAnyH_take (i := 11) (v := undef) rfl (by kernel_rfl) (by kernel_rfl) (by kernel_rfl) (fun _ _ _ h => h) (Or.inr ⟨by rfl, rfl⟩) hH ?_
            try simp only [Z1, Z2, Z3, Z4, Z5, Z6, Z7]
            refine wpAnyH_take (i := 12) (v := undef) rfl (by kernel_rfl) (by kernel_rfl) (by kernel_rfl) (fun _ _ _ h => h) (Or.inr ⟨by rfl, rfl⟩) hH ?_
            try simp only [Z1, Z2, Z3, Z4, Z5, Z6, Z7]
            refine wpAnyH_take (i := 13) (v := undef) rfl (by kernel_rfl) (by kernel_rfl) (by kernel_rfl) (fun _ _ _ h => h) (Or.inr ⟨by rfl, rfl⟩) hH ?_
            try simp only [Z1, Z2, Z3, Z4, Z5, Z6, Z7]
            refine wpAnyH_take (i := 14) (v := undef) rfl (by kernel_rfl) (by kernel_rfl) (by kernel_rfl) (fun _ _ _ h => h) (Or.inr ⟨by rfl, rfl⟩) hH ?_
            try simp only [Z1, Z2, Z3, Z4, Z5, Z6, Z7]
            refine wpAnyH_take (i := 15) (v := undef) rfl (by kernel_rfl) (by kernel_rfl) (by kernel_rfl) (fun _ _ _ h => h) (Or.inr ⟨by rfl, rfl⟩) hH ?_
            try simp only [Z1, Z2, Z3, Z4, Z5, Z6, Z7]
            refine wpAnyH_take (i := 16) (v := undef) rfl (by kernel_rfl) (by kernel_rfl) (by kernel_rfl) (fun _ _ _ h => h) (Or.inr ⟨by rfl, rfl⟩) hH ?_
            try simp only [Z1, Z2, Z3, Z4, Z5, Z6, Z7]
            refine wpAnyH_take (i := 17) (v := undef) rfl (by kernel_rfl) (by kernel_rfl) (by kernel_rfl) (fun _ _ _ h => h) (Or.inr ⟨by rfl, rfl⟩) hH ?_
            try simp only [Z1, Z2, Z3, Z4, Z5, Z6, Z7]
            refine wpAnyH_take (i := 18) (v := undef) rfl (by kernel_rfl) (by kernel_rfl) (by kernel_rfl) (fun _ _ _ h => h) (Or.inr ⟨by rfl, rfl⟩) hH ?_
            try simp only [Z1, Z2, Z3, Z4, Z5, Z6, Z7]
            refine wpAnyH_take (i := 19) (v := undef) rfl (by kernel_rfl) (by kernel_rfl) (by kernel_rfl) (fun _ _ _ h => h) (Or.inr ⟨by rfl, rfl⟩) hH ?_
            try simp only [Z1, Z2, Z3, Z4, Z5, Z6, Z7]
            refine wpAnyH_take (i := 20) (v := undef) rfl (by kernel_rfl) (by kernel_rfl) (by kernel_rfl) (fun _ _ _ h => h) (Or.inr ⟨by rfl, rfl⟩) hH ?_
            try simp only [Z1, Z2, Z3, Z4, Z5, Z6, Z7]
            refine wpAnyH_take (i := 21) (v := undef) rfl (by kernel_rfl) (by kernel_rfl) (by kernel_rfl) (fun _ _ _ h => h) (Or.inr ⟨by rfl, rfl⟩) hH ?_
            try simp only [Z1, Z2, Z3, Z4, Z5, Z6, Z7]
            refine wpAnyH_take (i := 22) (v := ?_) rfl (by kernel_rfl) (by kernel_rfl) (by kernel_rfl) (fun _ _ _ h => h) (Or.inl ⟨by rfl, ?_⟩) hH ?_
            case refine_2 => intro w hSw; go_simp; try with_reducible rfl
            try simp only [Z1, Z2, Z3, Z4, Z5, Z6, Z7]
            refine wpAnyH_take (i := 23) (v := ?_) rfl (by kernel_rfl) (by kernel_rfl) (by kernel_rfl) (fun _ _ _ h => h) (Or.inl ⟨by rfl, ?_⟩) hH ?_
            case refine_2 => intro w hSw; go_simp; try with_reducible rfl
            try simp only [Z1, Z2, Z3, Z4, Z5, Z6, Z7]
            refine wpAnyH_done (by kernel_rfl) ?_ _
            refine NoPanic.normal ?_
            go_wp2_with fail
            go_meet
            case rel => first | exact ⟨congrArg Value.bool HE.symm, kd⟩ | exact ⟨congrArg Value.bool hbn2, kd⟩
      case rest =>
      as_aux_lemma =>
        obtain ⟨rfl, bX⟩ := hcut
        clear F1 F2 F3 F4
        have kc := kf.below bX kf.lt
        have sc := sf.below bX
        obtain ⟨hRc, hSc⟩ := rows_below hRf hSf bX
        have bGc := bGf.more bX
        clear kf sf hRf hSf bGf bX
        have HRM : Hid (rs7.map (·.2.1) = rs.map (·.2.1) ++ tp) := by show _ = _; rw [H7.out, List.map_append, HMAP.out]
        have HLF : ∀ x, w.heap.size ≤ x → x ≠ g := fun x hx e => by omega
        cases tb with
        | true =>
          have LC : LD wc g (fun x => (F x ∨ w.heap.size ≤ x) ∧ (Value.slice A' sg'.length c').ownBlock ≠ some x) { l with next := n + tp.length, size := (te : Int) } sg' d ps := by
            refine ⟨A', c', kc, sc, (HD1.out.blp bGc (fun x _ hn => .inl (.inr (Classical.byContradiction hn)))).mono fun x hx => ?_, fun x hx => ⟨fun e => ?_, hx.2⟩, hpl⟩
            · rcases hx with hx | hx | hx
              · rcases hx.1 with h | h
                · exact .inl (.inl (.inl h))
                · exact .inl (.inr h)
              · exact .inl (.inl (.inr hx))
              · exact .inr (HROW2.out x hx)
            · rcases hx.1 with h | h
              · exact hFg (e ▸ h)
              · exact HLF x h e
          have sBc : SlS SegE wc (fun x => w.heap.size ≤ x ∧ x < w1.heap.size) (some ad) all := HSB.out.same (w' := wc) ⟨bGc.size, fun b h1 h2 => bGc.block b h2 (HLF b h1.1)⟩
          have T := clean_log g _ { l with next := n + tp.length, size := (te : Int) } sg' d ps wc LC HP.out HL.out (some ad) all bc _ sBc (fun x hx _ => ⟨.inr hx.1, fun e => by have := HROW2.out x e; have := hx.2; omega⟩) k hlt (by have := HAL.out; omega) (te : Int)
          replace T : Calls Try.prog 62 #[.pointer (some ⟨g, 0, none⟩), .slice (some ad) all.length bc, .int .i64 (k : Int), .int .i64 (te : Int)] wc (RetLD g (fun x => (F x ∨ w.heap.size ≤ x) ∧ (Value.slice A' sg'.length c').ownBlock ≠ some x) { l with next := n + tp.length, size := (te : Int) } sg' (cleanW l.pre all k (te : Int) d ps) wc) := T
          have HE : Hid (R = ((cleanW l.pre all k (te : Int) d ps).1, (cleanW l.pre all k (te : Int) d ps).2.1, (cleanW l.pre all k (te : Int) d ps).2.2, { l with next := n + tp.length, size := (te : Int) }, sg', rs7.map (·.2.1))) := by
            show _ = _
            rw [HX2.out, if_pos (of_decide_eq_true HTB.out.symm), HRM.out, HSG.out]
          have HCE : Hid (∀ x, RowsB A7 c7 rs7 x → ((F x ∨ w.heap.size ≤ x) ∧ (Value.slice A' sg'.length c').ownBlock ≠ some x) ∧ x < wc.heap.size) := fun x hx => ⟨⟨.inr (Nat.le_trans z1 (rows_lt hRc hSc hx).1), rows_seg hRc hSc sc hx⟩, (rows_lt hRc hSc hx).2⟩
          generalize cleanW l.pre all k (te : Int) d ps = r at *
          obtain ⟨e2, d2, ps2⟩ := r
          clear LC sBc kc sc
          go_wp2_with fail
          refine T.mono ?_
          clear T
          rintro en w10 ⟨h1, L10, B10⟩
          obtain rfl : en = .returned (.int .i64 e2) := h1
          obtain ⟨hRz, hSz⟩ := rows_same (w' := w10) hRc hSc (fun x hx => B10.block x (HCE.out x hx).2 (HCE.out x hx).1)
          have HFZ : Hid (LD w10 g (fun x => (F x ∧ x < w.heap.size) ∨ RowsB A7 c7 rs7 x) { l with next := n + tp.length, size := (te : Int) } sg' d2 ps2) := L10.mono fun x hx => by
            rcases hx with hx | hx
            · exact ⟨⟨.inl hx.1, fun e => by have := HROW2.out x e; have := hx.2; omega⟩, by have := bGc.size; have := hx.2; omega⟩
            · exact HCE.out x hx
          have HBZ : Hid (BlP F w w10) := by
            show BlP F w w10
            have b1 := HB1.out
            exact ⟨B10.os.trans (bGc.os.trans b1.os), B10.tape.trans (bGc.tape.trans b1.tape), B10.output.trans (bGc.output.trans b1.output), Nat.le_trans b1.size (Nat.le_trans bGc.size B10.size), fun x hx hf => (B10.block x (by have := bGc.size; omega) ⟨.inl hf, fun e => by have := HROW2.out x e; omega⟩).trans ((bGc.block x (Nat.lt_of_lt_of_le hx z1) (fun e => hFg (e ▸ hf))).trans (b1.block x hx))⟩
          clear L10 B10
          go_wp2_with fail
          go_ret2
          rw [HE.out]
          exact ⟨A7, c7, rs7, rfl, own_base hRz z1, hSz.base z1, rfl, HFZ.out, HBZ.out⟩
        | false =>
          have HX3 : Hid (R = repW l.pre all d ps (all.drop (k + 1)) (k + 1) { l with next := n + tp.length, size := (te : Int) } sg' (rs7.map (·.2.1))) := by
            show _ = _
            rw [HX2.out, if_neg (of_decide_eq_false HTB.out.symm), HRM.out, HSG.out]
          have HL3 : Hid (sg'.length = k + 1) := by show _ = _; rw [HSG.out, List.length_append, HSL.out]; rfl
          have HSM3 : Hid (rs7.length + ((all.drop (k + 1)).map fun n => (openAllL sumN (getP ps (nameW l.pre n)).1).1.length).sum ≤ 99999) := by
            show _ ≤ _
            rw [← HREST.out, H7.out, List.length_append, HLEN.out]
            have := HSM2.out
            omega
          clear HX2
          have hvw := HVW.out
          go_wp2_with fail
          go_roundw
          case rel => exact ⟨k + 1, A7, c7, rs7, sg', A', c', n + tp.length, (te : Int), hk1, rfl, (by first | rfl | exact congrArg (Value.int .i64) hvw), HX3.out, HL3.out, HSM3.out, hRc, hSc, kc, sc, HROW2.out, bGc⟩
          case measure => first | exact HMS.out | (rw [hvw]; exact HMS.out)
    · obtain rfl : k = all.length := by omega
      have hlti : ¬ ((all.length : Int) < (all.length : Int)) := by omega
      have HE : Hid (R = (0, d, ps, { l with next := nx, size := sz }, sg, rs.map (·.2.1))) := by
        show _ = _
        rw [HX.out, List.drop_length]
        rfl
      have HF : Hid (LD wr g (fun x => (F x ∧ x < w.heap.size) ∨ RowsB A2 c2 rs x) { l with next := nx, size := sz } sg d ps) := by
        refine ⟨A, c, kG, sG, (HD1.out.blp bG (fun x _ hn => .inl (.inr (Classical.byContradiction hn)))).mono fun x hx => ?_, fun x hx => ?_, hpl⟩
        · rcases hx with (hx | hx) | hx | hx
          · exact .inl (.inl (.inl hx.1))
          · exact .inr (rows_lt hR1 hS1 hx).1
          · exact .inl (.inl (.inr hx))
          · exact .inr (HROW.out x hx)
        · rcases hx with hx | hx
          · exact ⟨fun e => hFg (e ▸ hx.1), fun e => by have := HROW.out x e; have := hx.2; omega⟩
          · exact ⟨fun e => by have := (rows_lt hR1 hS1 hx).1; omega, rows_seg hR1 hS1 sG hx⟩
      have HB : Hid (BlP F w wr) := by
        show BlP F w wr
        have b1 := HB1.out
        exact ⟨bG.os.trans b1.os, bG.tape.trans b1.tape, bG.output.trans b1.output, Nat.le_trans b1.size bG.size, fun x hx hf => (bG.block x (Nat.lt_of_lt_of_le hx z1) (fun e => hFg (e ▸ hf))).trans (b1.block x hx)⟩
      clear HX kG sG bG
      go_wp2_with fail
      go_ret2
      rw [HE.out]
      exact ⟨A2, c2, rs, rfl, own_base hR1 z1, hS1.base z1, rfl, HF.out, HB.out⟩
end Go.Proofs.Ytbldfgpnghoigaa

namespace Go.Proofs.Ytbldfgpnghoigaa
open Go.RowKit

theorem deadD_any {w : World} {b : Nat} {F : Nat → Prop} {d : LDisk} {ps : List PFile} (hd : DD w b F d ps) : Calls Try.prog 36 #[.pointer (some ⟨b, 0, none⟩)] w (fun en w' => en = .returned (.bool d.dead) ∧ w' = w) := by
  obtain ⟨mv, S, fs, h1, rfl, h3⟩ := hd
  have c4 : w.cell? ⟨b, 4, none⟩ = some (.bool d.dead) := h1.1.cell 4
  clear h1 h3
  go_enter Try.func36, Try.ntmps36
  go_wp2_with fail
  go_ret
  exact ⟨rfl, rfl⟩
/-- what Open answers -/
def RetOpn (F : Nat → Prop) (r : Int × LDisk × List PFile × LLog × List Nat × List (List UInt8)) (w : World) (en : Ending) (w' : World) : Prop :=
  ∃ g A c rs, en = .returned (.tuple #[.pointer (some ⟨g, 0, none⟩), .slice A (List.length (α := R3) rs) c, .int .i64 0]) ∧ w.heap.size ≤ g ∧ RowsIs w.heap.size w' A c rs ∧ Sep w.heap.size w' rs ∧ rs.map (·.2.1) = r.2.2.2.2.2 ∧ LD w' g (fun x => (F x ∧ x < w.heap.size) ∨ RowsB A c rs x) r.2.2.2.1 r.2.2.2.2.1 r.2.1 r.2.2.1 ∧ BlP F w w'
/-- the first log on a disk -/
abbrev log0 (b : Nat) (pre : List UInt8) (most : Int) : LLog := ⟨b, pre, most, 0, 0, false⟩
set_option maxRecDepth 100000 in
set_option maxHeartbeats 4000000 in
theorem open_bad (b : Nat) (pre : List UInt8) (most : Int) (hm : most < 1) (w : World) : Calls Try.prog 10 #[.pointer (some ⟨b, 0, none⟩), .string ⟨pre.toArray⟩, .int .i64 most] w (fun en w' => en = .returned (.tuple #[.pointer none, .slice none 0 0, .int .i64 1]) ∧ w' = w) := by
  go_enter Try.func10, Try.ntmps10
  go_wp2_with fail
  go_ret3
  exact ⟨rfl, rfl⟩
set_option maxRecDepth 100000 in
set_option maxHeartbeats 4000000 in
theorem open_log (b : Nat) (F : Nat → Prop) (d : LDisk) (ps : List PFile) (w : World) (hd : DD w b F d ps) (hp : PsOk ps) (hl : LdOk d) (hdd : d.dead = false) (pre : List UInt8) (most : Int) (hm : ¬ most < 1) (hpl : pre.length ≤ 1048576)
    (ha : ∀ nm ∈ listP d ps pre, ∀ b ∈ nm, b.toNat < 128) (hll : (listP d ps pre).length ≤ 1048576) (hrd : ∀ n ∈ foundW (listP d ps pre) pre, readP d ps (nameW pre n) = ((getP ps (nameW pre n)).1, 0))
    (hbn : ∀ n ∈ foundW (listP d ps pre) pre, n ≤ 1099511627776 ∧ (getP ps (nameW pre n)).1.length ≤ 1099511627776) (hal : (foundW (listP d ps pre) pre).length ≤ 1048575)
    (hsum : ((foundW (listP d ps pre) pre).map fun n => (openAllL sumN (getP ps (nameW pre n)).1).1.length).sum ≤ 99999)
    (h0 : (repW pre (foundW (listP d ps pre) pre) d ps (foundW (listP d ps pre) pre) 0 (log0 b pre most) [] []).1 = 0) :
    Calls Try.prog 10 #[.pointer (some ⟨b, 0, none⟩), .string ⟨pre.toArray⟩, .int .i64 most] w (RetOpn F (repW pre (foundW (listP d ps pre) pre) d ps (foundW (listP d ps pre) pre) 0 (log0 b pre most) [] []) w) := by
  have TD := deadD_any hd
  rw [hdd] at TD
  have TR := Lib.hid (fun (wz : World) (g : Nat) (G : Nat → Prop) (hk : Blk wz g 77 (logC (.slice none 0 0) (log0 b pre most))) (hdz : DD wz b (fun x => G x ∨ x = g) d ps) (hG : ¬ G g) => replay_log g G (log0 b pre most) d ps wz hk hdz hG hp hl hpl ha hll hrd hbn hal hsum)
  replace TR : Hid (∀ (wz : World) (g : Nat) (G : Nat → Prop) (_ : Blk wz g 77 (logC (.slice none 0 0) (log0 b pre most))) (_ : DD wz b (fun x => G x ∨ x = g) d ps) (_ : ¬ G g), Calls Try.prog 37 #[.pointer (some ⟨g, 0, none⟩)] wz (RetRep g G (repW pre (foundW (listP d ps pre) pre) d ps (foundW (listP d ps pre) pre) 0 (log0 b pre most) [] []) wz)) := TR
  have H0 := Lib.hid h0
  clear h0
  generalize repW pre (foundW (listP d ps pre) pre) d ps (foundW (listP d ps pre) pre) 0 (log0 b pre most) [] [] = R at *
  obtain ⟨e, d2, ps2, l2, sg2, recs2⟩ := R
  obtain rfl : e = 0 := H0.out
  clear ha hll hrd hbn hal hsum H0 hp hl hdd
  have hb : Below w.heap.size w (w.alloc (.cells (logC (.slice none 0 0) (log0 b pre most)) 77)) := (Below.refl _ _).alloc (Nat.le_refl _) _
  have kG : Blk (w.alloc (.cells (logC (.slice none 0 0) (log0 b pre most)) 77)) w.heap.size 77 (logC (.slice none 0 0) (log0 b pre most)) := Blk.new w _ _
  have DB := hd.below hb
  have hz : (w.alloc (.cells (logC (.slice none 0 0) (log0 b pre most)) 77)).heap.size = w.heap.size + 1 := by simp
  have HD := Lib.hid hd
  clear hd
  go_enter Try.func10, Try.ntmps10
  go_wp2_with fail
  refine TD.mono ?_
  clear TD
  rintro en w9 ⟨rfl, hw9⟩
  obtain rfl : w = w9 := hw9.symm
  go_upto_region 6 with fail
  change Code.wp Try.prog _ _ _ (w.alloc (.cells (logC (.slice none 0 0) (log0 b pre most)) 77))
  generalize (w.alloc (.cells (logC (.slice none 0 0) (log0 b pre most)) 77)) = w1 at *
  have T := TR.out w1 w.heap.size (fun x => F x ∧ x < w.heap.size) kG (DB.mono fun x hx => by
    rcases hx with hx | hx
    · exact .inl hx.1
    · exact .inr (by omega)) (fun h => Nat.lt_irrefl _ h.2)
  clear TR DB kG
  go_wp2_with fail
  refine T.mono ?_
  clear T
  rintro en w2 ⟨A, c, rs, h1, hR, hS, hm2, hL, hB⟩
  obtain rfl : en = .returned (.tuple #[.slice A rs.length c, .int .i64 0]) := h1
  replace hL : LD w2 w.heap.size (fun x => ((F x ∧ x < w.heap.size) ∧ x < w1.heap.size) ∨ RowsB A c rs x) l2 sg2 d2 ps2 := hL
  have HM : Hid (rs.map (·.2.1) = recs2) := hm2
  clear hm2
  have hBF : BlP F w w2 := ⟨hB.os.trans hb.os, hB.tape.trans hb.tape, hB.output.trans hb.output, Nat.le_trans hb.size hB.size, fun x hx hf => (hB.block x (by omega) ⟨hf, hx⟩).trans (hb.block x hx)⟩
  have hz1 : w.heap.size ≤ w1.heap.size := hb.size
  clear hb hB
  go_wp2_with fail
  go_ret3
  exact ⟨w.heap.size, A, c, rs, rfl, Nat.le_refl _, own_base hR hz1, hS.base hz1, HM.out, hL.mono fun x hx => hx.imp (fun h => ⟨h, by omega⟩) id, hBF⟩
end Go.Proofs.Ytbldfgpnghoigaa
