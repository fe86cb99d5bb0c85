/- Two disks side by side, each with its document's: what a call of one leaves of both. -/
import Derived.Test.YtnhonjgclbmheaaDskE
import Derived.Test.YtnhonjgclbmheaaDskT
namespace Go.Proofs.Ytnhonjgclbmheaa
open Go.RowKit

/-- the disk p with the box bp of its document's, the disk q with boxes bq; boxes all: B -/
def Two (w0 : World) (B : Nat → Prop) (room : Int) (p : Nat) (kp : Nat) (bp : Nat) (q : Nat) (kq : Nat) (bq : Nat → Prop) (wr : World) : Prop :=
  ∃ (F G : Nat → Prop) (d : LDisk) (ps : List PFile) (A : Option Addr) (c : Nat) (W : LRD) (d2 : LDisk) (ps2 : List PFile) (A2 : Option Addr) (c2 : Nat) (W2 : LRD),
    DD wr p F d ps ∧ DD wr q G d2 ps2 ∧ (∀ g, F g ∨ G g) ∧ (∀ g, g < w0.heap.size → F g ∧ G g) ∧ (∀ g, B g → F g ∧ G g ∧ g < wr.heap.size) ∧ Below w0.heap.size w0 wr ∧
    (SlS RFE wr (fun g => (F g ∧ G g) ∧ ¬ B g) A W.files ∧ W.files.length ≤ c ∧ c ≤ 9223372036854775807) ∧ Blk wr bp 45 (rcs A c W) ∧ Rel d ps W ∧ Sz kp (kp * 1048576) ps ∧ d.room = max 0 room ∧
    (SlS RFE wr (fun g => (F g ∧ G g) ∧ ¬ B g) A2 W2.files ∧ W2.files.length ≤ c2 ∧ c2 ≤ 9223372036854775807) ∧ (∀ g, bq g → Blk wr g 45 (rcs A2 c2 W2)) ∧ Rel d2 ps2 W2 ∧ Sz kq (kq * 1048576) ps2 ∧ d2.room = max 0 room
theorem Two.below {w0 : World} {B : Nat → Prop} {room : Int} {p kp bp q kq : Nat} {bq : Nat → Prop} {wr w' : World} (h : Two w0 B room p kp bp q kq bq wr) (hb : Below wr.heap.size wr w') : Two w0 B room p kp bp q kq bq w' := by
  obtain ⟨F, G, d, ps, A, c, W, d2, ps2, A2, c2, W2, h1, h2, h3, h4, h5, h6, h7, h8, h9, h10, h11, h12, h13, h14, h15, h16⟩ := h
  have s := hb.size
  refine ⟨_, _, d, ps, A, c, W, d2, ps2, A2, c2, W2, h1.below hb, h2.below hb, fun g => (h3 g).imp .inl .inl, fun g hg => ⟨.inl (h4 g hg).1, .inl (h4 g hg).2⟩, fun g hg => ⟨.inl (h5 g hg).1, .inl (h5 g hg).2.1, by have := (h5 g hg).2.2; omega⟩, below_step h6 hb,
    ⟨(h7.1.below hb).mono fun g _ hg => ⟨⟨.inl hg.1.1, .inl hg.1.2⟩, hg.2⟩, h7.2⟩, h8.below hb h8.lt, h9, h10, h11, ⟨(h12.1.below hb).mono fun g _ hg => ⟨⟨.inl hg.1.1, .inl hg.1.2⟩, hg.2⟩, h12.2⟩, fun g hg => (h13 g hg).below hb (h13 g hg).lt, h14, h15, h16⟩
/-- the same, the disks' parts turned about -/
theorem Two.swap {w0 : World} {B : Nat → Prop} {room : Int} {p kp bp q kq : Nat} {bq : Nat → Prop} {wr : World} (h : Two w0 B room p kp bp q kq bq wr) {bn : Nat} (hn : bq bn) : Two w0 B room q kq bn p kp (fun g => g = bp) wr := by
  obtain ⟨F, G, d, ps, A, c, W, d2, ps2, A2, c2, W2, h1, h2, h3, h4, h5, h6, h7, h8, h9, h10, h11, h12, h13, h14, h15, h16⟩ := h
  exact ⟨G, F, d2, ps2, A2, c2, W2, d, ps, A, c, W, h2, h1, fun g => (h3 g).symm, fun g hg => (h4 g hg).symm, fun g hg => ⟨(h5 g hg).2.1, (h5 g hg).1, (h5 g hg).2.2⟩, h6,
    ⟨h12.1.mono fun g _ hg => ⟨hg.1.symm, hg.2⟩, h12.2⟩, h13 bn hn, h14, h15, h16, ⟨h7.1.mono fun g _ hg => ⟨hg.1.symm, hg.2⟩, h7.2⟩, fun g hg => by subst hg; exact h8, h9, h10, h11⟩
theorem Two.low {w0 : World} {B : Nat → Prop} {room : Int} {p kp bp q kq : Nat} {bq : Nat → Prop} {wr : World} (h : Two w0 B room p kp bp q kq bq wr) : Below w0.heap.size w0 wr := by
  obtain ⟨F, G, d, ps, A, c, W, d2, ps2, A2, c2, W2, h1, h2, h3, h4, h5, h6, _⟩ := h
  exact h6
/-- opened behind new blocks, which are neither disk's -/
theorem Two.opn {w0 : World} {B : Nat → Prop} {room : Int} {p kp bp q kq : Nat} {bq : Nat → Prop} {wv wr : World} (h : Two w0 B room p kp bp q kq bq wv) (hb : Below wv.heap.size wv wr) :
  ∃ (F G : Nat → Prop) (d : LDisk) (ps : List PFile) (A : Option Addr) (c : Nat) (W : LRD) (d2 : LDisk) (ps2 : List PFile) (A2 : Option Addr) (c2 : Nat) (W2 : LRD),
    DD wr p F d ps ∧ DD wr q G d2 ps2 ∧ (∀ g, F g ∨ G g) ∧ (∀ g, g < w0.heap.size → F g ∧ G g) ∧ (∀ g, B g → F g ∧ G g ∧ g < wr.heap.size) ∧ Below w0.heap.size w0 wr ∧
    (SlS RFE wr (fun g => (F g ∧ G g) ∧ ¬ B g) A W.files ∧ W.files.length ≤ c ∧ c ≤ 9223372036854775807) ∧ Blk wr bp 45 (rcs A c W) ∧ Rel d ps W ∧ Sz kp (kp * 1048576) ps ∧ d.room = max 0 room ∧
    (SlS RFE wr (fun g => (F g ∧ G g) ∧ ¬ B g) A2 W2.files ∧ W2.files.length ≤ c2 ∧ c2 ≤ 9223372036854775807) ∧ (∀ g, bq g → Blk wr g 45 (rcs A2 c2 W2)) ∧ Rel d2 ps2 W2 ∧ Sz kq (kq * 1048576) ps2 ∧ d2.room = max 0 room ∧ ∀ g, wv.heap.size ≤ g → F g ∧ G g := by
  obtain ⟨F, G, d, ps, A, c, W, d2, ps2, A2, c2, W2, h1, h2, h3, h4, h5, h6, h7, h8, h9, h10, h11, h12, h13, h14, h15, h16⟩ := h
  have s := hb.size
  refine ⟨_, _, d, ps, A, c, W, d2, ps2, A2, c2, W2, h1.below hb, h2.below hb, fun g => (h3 g).imp .inl .inl, fun g hg => ⟨.inl (h4 g hg).1, .inl (h4 g hg).2⟩, fun g hg => ⟨.inl (h5 g hg).1, .inl (h5 g hg).2.1, by have := (h5 g hg).2.2; omega⟩, below_step h6 hb,
    ⟨(h7.1.below hb).mono fun g _ hg => ⟨⟨.inl hg.1.1, .inl hg.1.2⟩, hg.2⟩, h7.2⟩, h8.below hb h8.lt, h9, h10, h11, ⟨(h12.1.below hb).mono fun g _ hg => ⟨⟨.inl hg.1.1, .inl hg.1.2⟩, hg.2⟩, h12.2⟩, fun g hg => (h13 g hg).below hb (h13 g hg).lt, h14, h15, h16, fun g hg => ⟨.inr hg, .inr hg⟩⟩
/-- behind a call of p and the store of its document's -/
theorem Two.step {w0 wA wB wC : World} {B F G F' : Nat → Prop} {room : Int} {p kp bp q kq : Nat} {bq : Nat → Prop} {d' : LDisk} {ps' : List PFile} {A' : Option Addr} {c' : Nat} {W' : LRD} {d2 : LDisk} {ps2 : List PFile} {A2 : Option Addr} {c2 : Nat} {W2 : LRD}
    (h2 : DD wA q G d2 ps2) (h3 : ∀ g, F g ∨ G g) (h4 : ∀ g, g < w0.heap.size → F g ∧ G g) (h5 : ∀ g, B g → F g ∧ G g ∧ g < wA.heap.size) (h6 : Below w0.heap.size w0 wA) (hlo : ∀ g, B g → w0.heap.size ≤ g)
    (h12 : SlS RFE wA (fun g => ((F g ∧ G g) ∧ ¬ B g) ∧ g < wA.heap.size) A2 W2.files) (hc2 : W2.files.length ≤ c2 ∧ c2 ≤ 9223372036854775807) (h13 : ∀ g, bq g → Blk wA g 45 (rcs A2 c2 W2)) (h14 : Rel d2 ps2 W2) (h15 : Sz kq (kq * 1048576) ps2) (h16 : d2.room = max 0 room)
    (hbp : B bp) (hbq : ∀ g, bq g → B g ∧ g ≠ bp)
    (hdB : DD wB p F' d' ps') (hF' : ∀ g, F g → g < wA.heap.size → F' g) (hrB : SlS RFE wB (fun g => (((F g ∧ G g) ∧ ¬ B g) ∧ g < wA.heap.size) ∨ (F' g ∧ wA.heap.size ≤ g)) A' W'.files) (hc : W'.files.length ≤ c' ∧ c' ≤ 9223372036854775807) (pB : BlP F wA wB)
    (gC : wB.grownBy wC (some bp)) (kC : Blk wC bp 45 (rcs A' c' W')) (hR : Rel d' ps' W') (hS : Sz kp (kp * 1048576) ps') (hrm : d'.room = max 0 room) : Two w0 B room p kp bp q kq bq wC := by
  have sB := pB.size
  have sC := gC.size
  have lbp := (h5 bp hbp).2.2
  have hFb : F' bp := hF' bp (h5 bp hbp).1 lbp
  have dp := hdB.grown gC (fun g e => .inl (by have h1 := Option.some.inj e; subst h1; exact hFb))
  have dq := (h2.blp pB (fun g _ hn => (h3 g).resolve_left hn)).grown gC (fun g e => .inl (.inl (by have h1 := Option.some.inj e; subst h1; exact (h5 bp hbp).2.1)))
  refine ⟨_, _, d', ps', A', c', W', d2, ps2, A2, c2, W2, dp, dq, fun g => ?_, fun g hg => ⟨.inl (hF' g (h4 g hg).1 (by have := h6.size; omega)), .inl (.inl (h4 g hg).2)⟩, fun g hg => ⟨.inl (hF' g (h5 g hg).1 (h5 g hg).2.2), .inl (.inl (h5 g hg).2.1), by have := (h5 g hg).2.2; omega⟩, ?_, ⟨?_, hc⟩, kC, hR, hS, hrm, ⟨?_, hc2⟩, fun g hg => ?_, h14, h15, h16⟩
  · rcases h3 g with h | h
    · rcases Nat.lt_or_ge g wA.heap.size with hl | hl
      · exact .inl (.inl (hF' g h hl))
      · exact .inr (.inl (.inr hl))
    · exact .inr (.inl (.inl h))
  · exact (pB.low h6 h6.size (fun g hg => (h4 g hg).1)).grown gC (pB.low h6 h6.size (fun g hg => (h4 g hg).1)).size (fun g e => by have h1 := Option.some.inj e; have := hlo bp hbp; omega)
  · refine (hrB.same (.of_grown gC fun g hg e => ?_)).mono fun g _ hg => ?_
    · have h1 := Option.some.inj e
      subst h1
      rcases hg with hg | hg
      · exact hg.1.2 hbp
      · omega
    · rcases hg with hg | hg
      · exact ⟨⟨.inl (hF' g hg.1.1.1 hg.2), .inl (.inl hg.1.1.2)⟩, hg.1.2⟩
      · exact ⟨⟨.inl hg.1, .inl (.inr hg.2)⟩, fun hb => by have := (h5 g hb).2.2; omega⟩
  · refine ((pB.sls h12 fun g hg => hg.1.1.1).same (.of_grown gC fun g hg e => ?_)).mono fun g _ hg => ⟨⟨.inl (hF' g hg.1.1.1 hg.2), .inl (.inl hg.1.1.2)⟩, hg.1.2⟩
    have h1 := Option.some.inj e
    subst h1
    exact hg.1.2 hbp
  · exact (pB.blk (h13 g hg) (h5 g (hbq g hg).1).1).grown gC (fun e => (hbq g hg).2 (Option.some.inj e))
theorem Rel.perm_ {d : LDisk} {ps ps2 : List PFile} {W : LRD} (h : Rel d ps W) (hp : ps2.Perm ps) : Rel d ps2 W := ⟨hp.trans h.perm, h.ris, h.room, h.dead, h.armed, h.left, h.rarm⟩
theorem Sz.perm_ {k u : Nat} {ps ps2 : List PFile} (h : Sz k u ps) (hp : ps2.Perm ps) : Sz k u ps2 :=
  ⟨(hp.map _).nodup_iff.2 h.nodup, by rw [hp.length_eq]; exact h.len, by rw [usedP_perm hp]; exact h.used, fun q hq => h.names q (hp.mem_iff.1 hq), fun q hq => h.safe q (hp.mem_iff.1 hq)⟩
/-- a twin, as the law sees it -/
theorem twinD_any {w : World} {b : Nat} {F : Nat → Prop} {d : LDisk} {ps : List PFile} (hd : DD w b F d ps) (hsz : ps.length ≤ 1048575) (hn : ∀ q ∈ ps, q.1.length ≤ 140737488355328) :
    Calls Try.prog 21 #[.pointer (some ⟨b, 0, none⟩)] w (fun en w' => en = .returned (.pointer (some ⟨w.heap.size, 0, none⟩)) ∧ (∃ ps2, DD w' w.heap.size (· < w.heap.size) d ps2 ∧ ps2.Perm ps) ∧ Below w.heap.size w w') := by
  obtain ⟨mv, S, fs, h1, rfl, h3⟩ := hd
  refine (twin_any d mv b fs S w h1 (by rwa [List.length_map] at hsz) (fun q hq => hn _ (List.mem_map_of_mem hq))).mono ?_
  rintro en w' ⟨rfl, ⟨mv', S', fs', hk, hp, hS', m, rfl, hm⟩, hb⟩
  refine ⟨rfl, ⟨_, ⟨_, S', fs', hk, rfl, fun g hg => ⟨Nat.ne_of_lt hg, fun e => ?_, fun e => ?_⟩⟩, hp⟩, hb⟩
  · injection e with e
    have := Option.some.inj e
    omega
  · have := hS' g e
    omega
end Go.Proofs.Ytnhonjgclbmheaa
