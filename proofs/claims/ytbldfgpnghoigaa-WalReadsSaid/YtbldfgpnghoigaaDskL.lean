/- A disk as a law sees it: the blocks of F are none of its. -/
import Derived.Test.YtbldfgpnghoigaaDskC
import Derived.Test.YtbldfgpnghoigaaApP
import Derived.Test.YtbldfgpnghoigaaOver
namespace Go.Proofs.Ytbldfgpnghoigaa
open Go.RowKit
open Go.Maps

/-- a disk in memory; what lies in the blocks of F is not the disk's -/
def DD (w : World) (b : Nat) (F : Nat → Prop) (d : LDisk) (ps : List PFile) : Prop :=
  ∃ mv S fs, Disk_ w b S mv d fs ∧ fs.map DF.p = ps ∧ ∀ g, F g → g ≠ b ∧ mv ≠ .map (some g) ∧ ¬ S g
/-- a disk's files are within bounds -/
structure PsOk (ps : List PFile) : Prop where
  len : ps.length ≤ 1048576
  used : usedP ps ≤ 70368744177664
  names : ∀ q ∈ ps, q.1.length ≤ 140737488355328
/-- .. and its room and the calls it has left -/
structure LdOk (d : LDisk) : Prop where
  room : 0 ≤ d.room ∧ d.room ≤ 9223372036854775807
  left : d.armed = true → 0 ≤ d.left ∧ d.left ≤ 9223372036854775807
section
variable {w w' : World} {b : Nat} {F F' : Nat → Prop} {d : LDisk} {ps : List PFile}
theorem DD.mono (h : DD w b F d ps) (hf : ∀ g, F' g → F g) : DD w b F' d ps := by
  obtain ⟨mv, S, fs, h1, h2, h3⟩ := h
  exact ⟨mv, S, fs, h1, h2, fun g hg => h3 g (hf g hg)⟩
theorem DD.below (h : DD w b F d ps) (hb : Below w.heap.size w w') : DD w' b (fun g => F g ∨ w.heap.size ≤ g) d ps := by
  obtain ⟨mv, S, fs, h1, h2, h3⟩ := h
  refine ⟨mv, S, fs, h1.below hb, h2, fun g hg => ?_⟩
  rcases hg with hg | hg
  · exact h3 g hg
  · exact ⟨by have := h1.1.lt; omega, fun e => by have := h1.2.1.lt e; omega, fun e => by have := (h1.2.2.2.2 g e).1; omega⟩
/-- another row has turned, which is none of the disk's -/
theorem DD.grown {row : Option Nat} (h : DD w b F d ps) (hg : w.grownBy w' row) (hr : ∀ g, row = some g → F g ∨ w.heap.size ≤ g) : DD w' b (fun g => F g ∨ w.heap.size ≤ g) d ps := by
  obtain ⟨mv, S, fs, h1, h2, h3⟩ := h
  have key : ∀ g, F g ∨ w.heap.size ≤ g → g ≠ b ∧ mv ≠ .map (some g) ∧ ¬ S g := fun g hg => by
    rcases hg with hg | hg
    · exact h3 g hg
    · exact ⟨by have := h1.1.lt; omega, fun e => by have := h1.2.1.lt e; omega, fun e => by have := (h1.2.2.2.2 g e).1; omega⟩
  exact ⟨mv, S, fs, h1.grown hg (fun g e => key g (hr g e)), h2, key⟩
/-- all blocks have stayed but some of F -/
theorem DD.blp {B : Nat → Prop} (h : DD w b F d ps) (hg : BlP B w w') (hr : ∀ g, g < w.heap.size → ¬ B g → F g) : DD w' b (fun g => F g ∨ w.heap.size ≤ g) d ps := by
  obtain ⟨mv, S, fs, h1, h2, h3⟩ := h
  refine ⟨mv, S, fs, h1.same hg.size fun g h4 h5 => hg.block g h4 (Classical.byContradiction fun e => ?_), h2, fun g hg => ?_⟩
  · obtain ⟨n1, n2, n3⟩ := h3 g (hr g h4 e)
    rcases h5 with h5 | h5 | h5
    · exact n1 h5
    · exact n2 h5
    · exact n3 h5
  · rcases hg with hg | hg
    · exact h3 g hg
    · exact ⟨by have := h1.1.lt; omega, fun e => by have := h1.2.1.lt e; omega, fun e => by have := (h1.2.2.2.2 g e).1; omega⟩
theorem DD.lt (h : DD w b F d ps) : b < w.heap.size := by
  obtain ⟨mv, S, fs, h1, h2, h3⟩ := h
  exact h1.1.lt
theorem DD.nodup (h : DD w b F d ps) : (ps.map (·.1)).Nodup := by
  obtain ⟨mv, S, fs, h1, rfl, h3⟩ := h
  rw [List.map_map]
  exact h1.2.1.nodup
theorem DD.safe (h : DD w b F d ps) : ∀ q ∈ ps, q.2.2 ≤ q.2.1.length := by
  obtain ⟨mv, S, fs, h1, rfl, h3⟩ := h
  intro q hq
  obtain ⟨r, hr, rfl⟩ := List.mem_map.1 hq
  exact (h1.2.2.1 r hr).2.2.2.2
end
theorem ok_names {fs : List DF} (h : PsOk (fs.map DF.p)) : ∀ q ∈ fs, q.name.length ≤ 140737488355328 := fun _ hq => h.names _ (List.mem_map_of_mem hq)
theorem ok_len {fs : List DF} (h : PsOk (fs.map DF.p)) : fs.length ≤ 1048576 := by have := h.len; rwa [List.length_map] at this
theorem ok_used {fs : List DF} (h : PsOk (fs.map DF.p)) : usedL fs ≤ 70368744177664 := by rw [usedP_map]; exact h.used
theorem below_step {a b c : World} (h : Below a.heap.size a b) (k : Below b.heap.size b c) : Below a.heap.size a c := h.trans (k.mono h.size)
theorem BlP.low {B : Nat} {F : Nat → Prop} {w0 w w' : World} (h : BlP F w w') (hb : Below B w0 w) (hB : B ≤ w.heap.size) (hF : ∀ g, g < B → F g) : Below B w0 w' :=
  hb.trans ⟨h.os, h.tape, h.output, h.size, fun k hk => h.block k (Nat.lt_of_lt_of_le hk hB) (hF k hk)⟩
theorem Bs.at_lt {w : World} {A : Option Addr} {l : List UInt8} (h : Bs w A l) : At (· < w.heap.size) A l.length := fun ad e hn => by
  obtain ⟨ad', e', hb, _⟩ := h.1.2 hn
  obtain rfl : ad = ad' := Option.some.inj (e.symm.trans e')
  exact hb
theorem BlP.blk {F : Nat → Prop} {w w' : World} {g : Nat} {t : TypeId} {cs : Array Value} (h : BlP F w w') (hb : Blk w g t cs) (hF : F g) : Blk w' g t cs := (h.block g hb.lt hF).trans hb
theorem own_of_spare {w : World} {g B : Nat} {l : List UInt8} (h : Blk w g 5 ((spL l).map bval).toArray) (hl : l.length ≤ 140737488351232) (hB : B ≤ g) : w.ownsRow B 5 1 (.slice (some ⟨g, 0, none⟩) (l.length + 40) (l.length + 40)) (l.length + 40) ((spL l).map bval) := by
  have := own_of_blk h hB (by rw [List.length_map, spL_length]; simp only [maxLen]; omega)
  rwa [List.length_map, spL_length] at this
/-- a call that is done: its append -/
theorem appP_ok {d : LDisk} {ps : List PFile} {nm x : List UInt8} (h1 : d.dead = false) (h2 : d.armed = false) (h3 : (usedP ps : Int) + (x.length : Int) ≤ d.room) : appP d ps nm x = (0, d, putP ps (nm, (getP ps nm).1 ++ x, (getP ps nm).2)) := by
  obtain ⟨room, armed, left, dead⟩ := d
  obtain rfl : dead = false := h1
  obtain rfl : armed = false := h2
  unfold appP
  rw [if_neg (show ¬ (room - (usedP ps : Int) < (x.length : Int)) by have h3 : (usedP ps : Int) + (x.length : Int) ≤ room := h3; omega)]
  rfl
/-- behind a call of the disk -/
def DDTo (b : Nat) (F : Nat → Prop) (d : LDisk) (ps : List PFile) (w w' : World) : Prop :=
  DD w' b (fun g => F g ∧ g < w.heap.size) d ps ∧ BlP F w w'
theorem DiskTo.dd {b : Nat} {S : Nat → Prop} {mv : Value} {d : LDisk} {ps : List PFile} {w w' : World} {F : Nat → Prop} (h : DiskTo b S mv d ps w w') (hF : ∀ g, F g → g ≠ b ∧ mv ≠ .map (some g) ∧ ¬ S g) : DDTo b F d ps w w' := by
  obtain ⟨mv', S', fs', h1, h2, h3, h4, h5⟩ := h
  refine ⟨⟨mv', S', fs', h1, h2, fun g hg => ?_⟩, ⟨h5.3.1, h5.3.2.1, h5.3.2.2, h5.1, fun g hg hb => h5.2 g hg (hF g hb).1 (hF g hb).2.1⟩⟩
  obtain ⟨n1, n2, n3⟩ := hF g hg.1
  refine ⟨n1, fun e => ?_, fun e => ?_⟩
  · rcases h4 with rfl | ⟨mb, rfl, hmb⟩
    · exact n2 e
    · injection e with e
      have := Option.some.inj e
      omega
  · rcases h3 g e with h | h
    · exact n3 h
    · omega
def RetDD (b : Nat) (F : Nat → Prop) (r : Int × LDisk × List PFile) (w : World) (en : Ending) (w' : World) : Prop :=
  en = .returned (.int .i64 r.1) ∧ DDTo b F r.2.1 r.2.2 w w'
theorem DDTo.low {b B : Nat} {F : Nat → Prop} {d : LDisk} {ps : List PFile} {w0 w w' : World} (h : DDTo b F d ps w w') (hb : Below B w0 w) (hB : B ≤ w.heap.size) (hF : ∀ g, g < B → F g) : Below B w0 w' ∧ DD w' b (· < B) d ps :=
  ⟨hb.trans ⟨h.2.os, h.2.tape, h.2.output, h.2.size, fun k hk => h.2.block k (Nat.lt_of_lt_of_le hk hB) (hF k hk)⟩, h.1.mono fun g hg => ⟨hF g hg, Nat.lt_of_lt_of_le hg hB⟩⟩
theorem BlP.bs {F : Nat → Prop} {w w' : World} {A : Option Addr} {l : List UInt8} (h : BlP F w w') (hb : Bs w A l) (ha : At F A l.length) : Bs w' A l := hb.sameS ha ⟨h.size, fun g h1 h2 => h.block g h2 h1⟩
theorem BlP.own {F : Nat → Prop} {w w' : World} {A : Option Addr} {l : List UInt8} {c base : Nat} (h : BlP F w w') (hb : OwnB base w A l c) (ha : ∀ g, (Value.slice A l.length c).ownBlock = some g → F g) : OwnB base w' A l c := by
  refine ⟨hb.1, ?_⟩
  rcases hb.2 with h4 | ⟨g, cap, cur, e1, e2, e3, e4⟩
  · exact .inl h4
  · have hg : F g := ha g (by rw [e1]; rfl)
    have hlt : g < w.heap.size := by
      rcases Nat.lt_or_ge g w.heap.size with h5 | h5
      · exact h5
      · rw [Array.getElem?_eq_none h5] at e3; cases e3
    exact .inr ⟨g, cap, cur, e1, e2, by rw [h.block g hlt hg]; exact e3, e4⟩
theorem newD_any (room : Int) (w : World) : Calls Try.prog 9 #[.int .i64 room] w (fun en w' => en = .returned (.pointer (some ⟨w.heap.size, 0, none⟩)) ∧ DD w' w.heap.size (fun g => g ≠ w.heap.size) ⟨max 0 room, false, 0, false⟩ [] ∧ Below w.heap.size w w') :=
  (new_any room w).mono fun _ _ ⟨h1, h2, h3⟩ => ⟨h1, ⟨.map none, fun _ => False, [], ⟨h2, .inl ⟨rfl, rfl⟩, DFs.nil_ _ _, (fun e => by cases e), fun _ h => h.elim⟩, rfl, fun _ h => ⟨h, (fun e => by cases e), id⟩⟩, h3⟩
section
variable {w : World} {b : Nat} {F : Nat → Prop} {d : LDisk} {ps : List PFile}
theorem appendD_any (hd : DD w b F d ps) (hp : PsOk ps) (hl : LdOk d) (nm : List UInt8) (X : Option Addr) (x : List UInt8) (xc : Nat) (hx : Bs w X x) (hxF : At F X x.length) (hn : nm.length ≤ 140737488355328) (hxl : x.length ≤ 70368744177664) :
    Calls Try.prog 20 #[.pointer (some ⟨b, 0, none⟩), .string ⟨nm.toArray⟩, .slice X x.length xc] w (RetDD b F (appP d ps nm x) w) := by
  obtain ⟨mv, S, fs, h1, rfl, h3⟩ := hd
  exact (append_any d mv b fs S nm X x xc w h1 hx (hxF.mono' fun g hg => ⟨(h3 g hg).1, (h3 g hg).2.1⟩) hn (ok_len hp) (ok_used hp) hxl hl.room hl.left).mono fun _ _ ⟨h4, h5⟩ => ⟨h4, h5.dd h3⟩
theorem syncD_any (hd : DD w b F d ps) (hp : PsOk ps) (hl : LdOk d) (nm : List UInt8) (hn : nm.length ≤ 140737488355328) :
    Calls Try.prog 55 #[.pointer (some ⟨b, 0, none⟩), .string ⟨nm.toArray⟩] w (RetDD b F (syncP d ps nm) w) := by
  obtain ⟨mv, S, fs, h1, rfl, h3⟩ := hd
  exact (sync_any d mv b fs S nm w h1 hn (ok_len hp) hl.left).mono fun _ _ ⟨h4, h5⟩ => ⟨h4, h5.dd h3⟩
theorem removeD_any (hd : DD w b F d ps) (hp : PsOk ps) (hl : LdOk d) (nm : List UInt8) (hn : nm.length ≤ 140737488355328) :
    Calls Try.prog 56 #[.pointer (some ⟨b, 0, none⟩), .string ⟨nm.toArray⟩] w (RetDD b F (removeP d ps nm) w) := by
  obtain ⟨mv, S, fs, h1, rfl, h3⟩ := hd
  exact (remove_any d mv b fs S nm w h1 hn (ok_len hp) hl.left).mono fun _ _ ⟨h4, h5⟩ => ⟨h4, h5.dd h3⟩
theorem crashD_any (hd : DD w b F d ps) (hp : PsOk ps) (K : Option Addr) (keeps : List Int) (kc : Nat) (hk : SlS IntE w F K keeps) :
    Calls Try.prog 57 #[.pointer (some ⟨b, 0, none⟩), .slice K keeps.length kc] w (fun en w' => en = .returned (.tuple #[]) ∧ DDTo b F ⟨d.room, false, 0, false⟩ (crashP keeps ps) w w') := by
  obtain ⟨mv, S, fs, h1, rfl, h3⟩ := hd
  exact (crash_any d mv b fs S K keeps kc F w h1 hk (fun g hg => ⟨(h3 g hg).1, (h3 g hg).2.1⟩) (ok_len hp) (ok_names hp)).mono fun _ _ ⟨h4, h5⟩ => ⟨h4, h5.dd h3⟩
theorem armD_any (hd : DD w b F d ps) (n : Int) :
    Calls Try.prog 33 #[.pointer (some ⟨b, 0, none⟩), .int .i64 n] w (fun en w' => en = .returned (.tuple #[]) ∧ DDTo b F { d with armed := decide (0 ≤ n), left := n } ps w w') := by
  obtain ⟨mv, S, fs, h1, rfl, h3⟩ := hd
  exact (arm_any d mv b n w h1.1).mono fun _ _ ⟨h4, h5, h6⟩ => ⟨h4, DiskTo.dd ⟨mv, S, fs, h1.set_ h5 h6, rfl, fun _ h => .inl h, .inl rfl, DKept.of_grown h6⟩ h3⟩
/-- what is read under a name -/
def readP (d : LDisk) (ps : List PFile) (nm : List UInt8) : List UInt8 × Int :=
  if d.dead then ([], 9) else match ps.find? (fun q => q.1 == nm) with | some q => (q.2.1, 0) | none => ([], 6)
theorem readP_map (d : LDisk) (fs : List DF) (nm : List UInt8) : readL d.dead fs nm = readP d (fs.map DF.p) nm := by
  unfold readL readP
  split
  · rfl
  · rw [List.find?_map]
    show _ = match Option.map DF.p (fs.find? (fun q => q.name == nm)) with | some q => (q.2.1, (0 : Int)) | none => ([], 6)
    cases fs.find? (fun q => q.name == nm) <;> rfl
theorem readD_any (hd : DD w b F d ps) (nm : List UInt8) (hn : nm.length ≤ 140737488355328) :
    Calls Try.prog 17 #[.pointer (some ⟨b, 0, none⟩), .string ⟨nm.toArray⟩] w (RetRead (readP d ps nm) w) := by
  obtain ⟨mv, S, fs, h1, rfl, h3⟩ := hd
  rw [← readP_map]
  exact read_any d mv b fs S nm w h1.1 h1.2.1 h1.2.2.1 hn
theorem usedD_any (hd : DD w b F d ps) (hp : PsOk ps) :
    Calls Try.prog 52 #[.pointer (some ⟨b, 0, none⟩)] w (fun en w' => en = .returned (.int .i64 (usedP ps : Int)) ∧ Below w.heap.size w w') := by
  obtain ⟨mv, S, fs, h1, rfl, h3⟩ := hd
  rw [← usedP_map]
  exact used_any d mv b fs w h1.1 h1.2.1 (by have := ok_used hp; omega)
end
end Go.Proofs.Ytbldfgpnghoigaa
