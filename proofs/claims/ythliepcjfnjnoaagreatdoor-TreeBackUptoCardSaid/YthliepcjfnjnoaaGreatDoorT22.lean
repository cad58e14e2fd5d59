import Derived.Test.YthliepcjfnjnoaaGreatDoorT21
import Derived.Test.YthliepcjfnjnoaaGreatDoorT17
set_option linter.unusedVariables false
set_option linter.unusedSimpArgs false
set_option maxRecDepth 20000
namespace Go.Proofs.YthliepcjfnjnoaaGreatDoor
open Go page
namespace tree
def cK (k v : UInt8) : Change := ⟨[k], [v], false⟩
def eK (k v : UInt8) (n : Int) : Entry := ⟨[k], [v], n, false⟩
instance (a b : Entry) : Decidable (gtE a b) := by unfold gtE; infer_instance
def S12 : List Entry := [eK 97 120 1, eK 98 121 1]
theorem wAXBY : wF [cK 97 120, cK 98 121] 1 = ([1, 2, 1, 97, 0, 1, 120, 1, 98, 0, 1, 121], 0) := by
  have h : bodyC [cK 97 120, cK 98 121] 1 = [1, 2, 1, 97, 0, 1, 120, 1, 98, 0, 1, 121] := by rfl
  rw [wF_0 (by decide) (by decide) (by decide) (by rfl) (by rw [h]; decide), h]
theorem put12 {d : disk.Disk} (h : BOK d [] [] []) : ∃ a x, log.addF d [1, 2, 1, 97, 0, 1, 120, 1, 98, 0, 1, 121] = (a, 0) ∧ disk.doF d (a ++ [⟨true, ⟨0, []⟩⟩]) = (x, 0) ∧ a.length ≤ 1000 ∧ BOK x [[1, 2, 1, 97, 0, 1, 120, 1, 98, 0, 1, 121]] [[cK 97 120, cK 98 121]] S12 :=
  h.put wAXBY (by decide) (by decide) (by decide) (by decide) (by decide) (fun a b ha hb => (by decide : ∀ a ∈ S12, ∀ b ∈ S12, gtE a b → gtE b a → a = b) a ha b hb)
theorem g12 : getT S12 1 [97] 1 = ([120], true, 0) := by decide
end tree
end Go.Proofs.YthliepcjfnjnoaaGreatDoor
namespace Go.Proofs.YthliepcjfnjnoaaGreatDoor
open Go page tree
theorem done_fn {w : World} {v vl : Value} {d x : disk.Disk} {rs : List Bs} {ls : List (List Change)} {S : List Entry} {l : List Change} {r : Bs} {a : List disk.Act} {keep : Int} (h : disk.tDisk.rep All w v d) (hg : files.GOK w) (hb : BOK d rs ls S) (hl : (Sl tChange).rep All w vl l) (hw : wF l ((rs.length : Int) + 1) = (r, 0)) (hr : r.length ≤ 112) (ha : log.addF d r = (a, 0)) (hx1 : disk.doF d (a ++ [⟨true, ⟨0, []⟩⟩]) = (x, 0)) (hal : a.length ≤ 1000) (hk : 0 ≤ keep ∧ keep ≤ rs.length) : Fn Tryz.prog 20 [v, i64 keep, vl] w (fun y w2 => disk.tDisk.rep (fun k => w.heap.size ≤ k) w2 y x ∧ Ext (fun _ => False) w w2) := by
  obtain ⟨a1, k1, a2, k2, rfl⟩ := shapeD h
  obtain ⟨al, kl, rfl, _⟩ := Sl.val hl
  refine Fn.enter (fun w => Tryz.call20 _ w) Tryz.func20 rfl ?_
  refine W2 ?_
  refine .v rfl rfl (.box rfl) ?_
  rintro _ w3 ⟨rfl, N3⟩
  have B3 := N3.blk
  have X3 := N3.ext
  have z3 := N3.size
  refine .v rfl rfl (.alloc rfl rfl) ?_
  rintro _ w6 ⟨rfl, N6⟩
  have B6 := N6.blk
  have X6 := N6.ext
  have z6 := N6.size
  refine W4 ?_
  refine .p rfl rfl (.loadA (n := 3) rfl rfl rfl rfl rfl (B3.ext0 .au).cells) ?_
  refine W2 ?_
  refine .cl rfl rfl rfl rfl (bPut_fn (r := r) (a := a) (disk.tDisk.ext0 h .au) (hg.ext0 .au) hb ((Sl tChange).ext0 hl .au) hw ha hk hr hal) ?_
  rintro _ w16 ⟨⟨u16, rfl, R16⟩, X16⟩
  have z16 := X16.size
  obtain ⟨a16, k16, rfl, _⟩ := Sl.val R16
  refine W11 ?_
  refine .p rfl rfl (.loadA (n := 3) rfl rfl rfl rfl rfl (B3.ext0 .au).cells) ?_
  refine W1 ?_
  refine .cl rfl rfl rfl rfl (Do_fn (d := d) (disk.tDisk.ext0 h .au) R16) ?_
  rintro _ w23 ⟨v23, rfl, D23, X23⟩
  have z23 := X23.size
  rw [hx1] at D23 ⊢
  have R23 := D23.rep
  obtain ⟨a3, k3, a4, k4, rfl⟩ := shapeD R23
  refine W3 ?_
  refine .v rfl rfl (.alloc rfl rfl) ?_
  rintro _ wn10 ⟨rfl, N10⟩
  refine .s rfl (.storeAll (n := 3) rfl rfl rfl rfl rfl N10.blk rfl) ?_
  intro w10 P10
  have Y10 := N10.ext.then P10.ext (by rintro k rfl _; exact Nat.le_refl _)
  have zy10 := Y10.size
  have B10 := P10.blk
  clear P10 N10
  refine W5 ?_
  refine .keep [(11, _), (10, _), (9, _), (6, _)] ⟨rfl, rfl, rfl, rfl, trivial⟩ ?_
  refine W2 ?_
  refine .p rfl rfl (.no (.ne rfl rfl) (fun h => h rfl)) ?_
  refine W2 ?_
  refine .p rfl rfl (.no (.ne rfl rfl) (fun h => h rfl)) ?_
  refine W8 ?_
  refine .p rfl rfl (.loadA (n := 3) rfl rfl rfl rfl rfl (B10.ext0 .au).cells) ?_
  refine .s rfl (.storeAll (n := 3) rfl rfl rfl rfl rfl (B6.ext0 .au) rfl) ?_
  intro wz Pz
  refine W2 ?_
  refine .retR (.cell (n := 3) rfl rfl rfl rfl rfl (Pz.blk.cells) .nil) ?_
  exact ⟨disk.tDisk.mono (disk.tDisk.ext (disk.tDisk.ext0 R23 Y10) Pz.ext (fun k hk _ h => by have h : k = w3.heap.size := h; have hk : w16.heap.size ≤ k := hk; omega)) (P' := fun k => w.heap.size ≤ k) (fun k hk _ => by have hk : w16.heap.size ≤ k := hk; show w.heap.size ≤ k; omega), Ext.then (show Ext (fun _ => False) w w10 from .au) Pz.ext (by rintro k rfl _; exact X3.size)⟩
theorem tAlive_fn {w : World} (hg : files.GOK w) : Fn Tryz.prog 5 [] w (fun r w2 => r = .bool true ∧ Ext (fun _ => False) w w2) := by
  refine Fn.enter (fun w => Tryz.call5 _ w) Tryz.func5 rfl ?_
  refine W7 ?_
  refine .cl rfl rfl rfl rfl (tFormat_fn hg) ?_
  rintro _ w8 ⟨⟨v8, x0, rfl, R8, T8⟩, X8⟩
  have z8 := X8.size
  obtain ⟨a1, k1, a2, k2, rfl⟩ := shapeD R8
  refine W3 ?_
  refine .v rfl rfl (.alloc rfl rfl) ?_
  rintro _ wn1 ⟨rfl, N1⟩
  refine .s rfl (.storeAll (n := 3) rfl rfl rfl rfl rfl N1.blk rfl) ?_
  intro w1 P1
  have Y1 := N1.ext.then P1.ext (by rintro k rfl _; exact Nat.le_refl _)
  have zy1 := Y1.size
  have B1 := P1.blk
  clear P1 N1
  have hl1 := B1.lt
  have hg1 : files.GOK w1 := hg.ext0 (X8.trans Y1)
  have hb0 := BOK.new T8
  obtain ⟨a, x, ha, hx1, hal, hb1⟩ := put12 hb0
  refine W4 ?_
  refine .meet (S := Nat × (Option Addr × Nat × Option Addr × Nat) × World) (fun s => [(2, i64 0), (3, .pointer (some ⟨s.1, 0, none⟩))]) (fun s => s.2.2) (fun s => Blk s.2.2 s.1 46 [i64 x.count, .slice s.2.1.1 x.data.length s.2.1.2.1, .slice s.2.1.2.2.1 x.waits.length s.2.1.2.2.2] ∧ disk.tDisk.rep All s.2.2 (.agg #[i64 x.count, .slice s.2.1.1 x.data.length s.2.1.2.1, .slice s.2.1.2.2.1 x.waits.length s.2.1.2.2.2]) x ∧ Ext (fun _ => False) w1 s.2.2) ?_ ?_
  · rintro ⟨p, ⟨x16, y16, p16, q16⟩, wm⟩ ⟨Bm, Rm, Xm⟩
    simp only at Bm Rm Xm
    change A _ [(2, i64 0), (3, .pointer (some ⟨p, 0, none⟩))] _ wm
    refine W3 ?_
    refine .p rfl rfl (.loadA (n := 3) rfl rfl rfl rfl rfl Bm.cells) ?_
    refine .cl rfl rfl rfl rfl (bGet_fn Rm (hg1.ext0 Xm) hb1 (by decide) ⟨by decide, by decide⟩) ?_
    rintro _ w18 ⟨rfl, X18⟩
    have z18 := X18.size
    rw [show getT S12 (List.length [[(1 : UInt8), 2, 1, 97, 0, 1, 120, 1, 98, 0, 1, 121]]) [97] 1 = ([120], true, 0) from g12]
    refine W12 ?_
    refine .p rfl rfl (.yes (.eq rfl rfl) (rfl)) ?_
    refine W2 ?_
    refine .p rfl rfl (.yes (.eq rfl rfl) (rfl)) ?_
    refine W6 ?_
    refine .p rfl rfl (.yes (.eqS rfl rfl) rfl) ?_
    refine W4 ?_
    refine .ret _ rfl ?_
    exact ⟨rfl, .au⟩
  · intro meet
    refine .tree (fun k => w1.heap.size ≤ k) [1, 2, 3, 4, 5, 6] (.op 0 (.alt 1 (.op 1 (.alt 2 (.op 2 (.alt 3 (.op 3 (.alt 4 (.op 4 (.alt 5 (.op 5 (.alt 6 (.op 6 (.nil)) (.stop))) (.stop))) (.alt 5 (.op 5 (.alt 4 (.op 4 (.alt 6 (.op 6 (.nil)) (.stop))) (.stop))) (.stop)))) (.alt 5 (.op 5 (.alt 3 (.op 3 (.alt 4 (.op 4 (.alt 6 (.op 6 (.nil)) (.stop))) (.stop))) (.stop))) (.stop)))) (.alt 5 (.op 5 (.alt 2 (.op 2 (.alt 3 (.op 3 (.alt 4 (.op 4 (.alt 6 (.op 6 (.nil)) (.stop))) (.stop))) (.stop))) (.stop))) (.stop)))) (.alt 5 (.op 5 (.alt 1 (.op 1 (.alt 2 (.op 2 (.alt 3 (.op 3 (.alt 4 (.op 4 (.alt 6 (.op 6 (.nil)) (.stop))) (.stop))) (.stop))) (.stop))) (.stop))) (.stop)))) (by kernel_rfl) (by kernel_rfl) (by kernel_rfl) ?_
    refine .p rfl rfl rfl rfl (fun wx hx => .loadA (n := 3) rfl rfl rfl rfl rfl (B1.ext hx (by show ¬ (w1.heap.size ≤ w8.heap.size); omega)).cells) ?_
    refine .alt ?_ ?_
    · refine .cl rfl rfl rfl rfl rfl rfl (putL_fn) (by rintro _ _ ⟨_, hx⟩; exact (Ext.refl _).trans (hx.mono (fun _ _ h => h.elim))) ?_
      rintro _ w12 ⟨rfl, X12⟩
      have z12 := X12.size
      have hX12 : Ext (fun k => w1.heap.size ≤ k) _ _ := (Ext.refl _).trans (X12.mono (fun _ _ h => h.elim))
      refine .alt ?_ ?_
      · refine .cl rfl rfl rfl rfl rfl rfl (putL_fn) (by rintro _ _ ⟨_, hx⟩; exact hX12.trans (hx.mono (fun _ _ h => h.elim))) ?_
        rintro _ w13 ⟨rfl, X13⟩
        have z13 := X13.size
        have hX13 : Ext (fun k => w1.heap.size ≤ k) _ _ := hX12.trans (X13.mono (fun _ _ h => h.elim))
        refine .alt ?_ ?_
        · refine .v rfl rfl rfl rfl (.lits rfl rfl (fun _ => by kernel_rfl)) (by rintro _ _ ⟨_, hN⟩; exact hX13.trans hN.ext0) ?_
          rintro _ w14 ⟨rfl, N14⟩
          have R14 : (Sl tChange).rep All w14 (.slice _ 2 2) [cK 97 120, cK 98 121] := Sl.mk (us := [_, _]) (.cons (tChange.mk (x := cK 97 120) (by decide) (by decide)) (.cons (tChange.mk (x := cK 98 121) (by decide) (by decide)) .nil)) (by have := N14.blk.cells; exact this) trivial N14.blk.lt (by simp) (by simp [Lim]) rfl
          have X14 := N14.ext
          have z14 := N14.size
          have hX14 : Ext (fun k => w1.heap.size ≤ k) _ _ := hX13.trans (N14.ext0)
          refine .alt ?_ ?_
          · refine .cl rfl rfl rfl rfl rfl rfl (done_fn (a := a) (x := x) (allOf (disk.tDisk.ext (disk.tDisk.ext0 (disk.tDisk.mono R8 (P' := fun k => k < w8.heap.size) (fun k _ hl => hl)) Y1) hX14 (by intro k hk _ he; have he : w1.heap.size ≤ k := he; have hk : k < w8.heap.size := hk; omega))) (hg1.ext hX14 (fun he => by have he : w1.heap.size ≤ _ := he; have := hg1.lt; omega)) hb0 (by first | exact R14 | exact (Sl tChange).ext0 R14 N3.ext) wAXBY (by decide) ha hx1 hal ⟨by decide, by decide⟩) (by rintro _ _ ⟨_, hx⟩; exact hX14.trans (hx.mono (fun _ _ h => h.elim))) ?_
            rintro _ w15 ⟨R15, X15⟩
            have z15 := X15.size
            have R15 := disk.tDisk.mono R15 (P' := fun k => w14.heap.size ≤ k ∧ k < w15.heap.size) (fun k h hl => ⟨h, hl⟩)
            obtain ⟨a3, k3, a4, k4, rfl⟩ := shapeD R15
            have hX15 : Ext (fun k => w1.heap.size ≤ k) _ _ := hX14.trans (X15.mono (fun _ _ h => h.elim))
            refine .alt ?_ ?_
            · refine .v rfl rfl rfl rfl (.alloc rfl rfl) (by rintro _ _ ⟨_, hN⟩; exact hX15.trans hN.ext0) ?_
              rintro _ w3 ⟨rfl, N3⟩
              have X3 := N3.ext
              have z3 := N3.size
              have hX3 : Ext (fun k => w1.heap.size ≤ k) _ _ := hX15.trans (N3.ext0)
              refine .alt ?_ ?_
              · refine .s rfl rfl rfl (.storeAll (n := 3) (E := 46) (cs := [i64 0, .slice none 0 0, .slice none 0 0]) rfl rfl rfl rfl rfl (by first | exact N3.blk | exact N3.blk.ext0 .au) rfl) (by intro wz hP; exact hX3.trans (hP.ext.mono (by rintro k _ rfl; show w1.heap.size ≤ _; omega))) ?_
                intro ws P3
                have hXs6 : Ext (fun k => w1.heap.size ≤ k) _ _ := hX3.trans (P3.ext.mono (by rintro k _ rfl; show w1.heap.size ≤ _; omega))
                refine W1 ?_
                exact (meet (_, (a3, k3, a4, k4), ws) ⟨P3.blk, allOf (disk.tDisk.ext (by first | exact R15 | exact disk.tDisk.ext0 R15 N3.ext) P3.ext (fun k hk _ he => by have he : k = _ := he; obtain ⟨h1, h2⟩ := hk; omega)), (Ext.refl w1).then hXs6 (fun k hk _ => hk)⟩).of ⟨rfl, rfl, trivial⟩
              exact .stop
            exact .stop
          refine .alt ?_ ?_
          · refine .v rfl rfl rfl rfl (.alloc rfl rfl) (by rintro _ _ ⟨_, hN⟩; exact hX14.trans hN.ext0) ?_
            rintro _ w3 ⟨rfl, N3⟩
            have X3 := N3.ext
            have z3 := N3.size
            have hX3 : Ext (fun k => w1.heap.size ≤ k) _ _ := hX14.trans (N3.ext0)
            refine .alt ?_ ?_
            · refine .cl rfl rfl rfl rfl rfl rfl (done_fn (a := a) (x := x) (allOf (disk.tDisk.ext (disk.tDisk.ext0 (disk.tDisk.mono R8 (P' := fun k => k < w8.heap.size) (fun k _ hl => hl)) Y1) hX3 (by intro k hk _ he; have he : w1.heap.size ≤ k := he; have hk : k < w8.heap.size := hk; omega))) (hg1.ext hX3 (fun he => by have he : w1.heap.size ≤ _ := he; have := hg1.lt; omega)) hb0 (by first | exact R14 | exact (Sl tChange).ext0 R14 N3.ext) wAXBY (by decide) ha hx1 hal ⟨by decide, by decide⟩) (by rintro _ _ ⟨_, hx⟩; exact hX3.trans (hx.mono (fun _ _ h => h.elim))) ?_
              rintro _ w15 ⟨R15, X15⟩
              have z15 := X15.size
              have R15 := disk.tDisk.mono R15 (P' := fun k => w3.heap.size ≤ k ∧ k < w15.heap.size) (fun k h hl => ⟨h, hl⟩)
              obtain ⟨a3, k3, a4, k4, rfl⟩ := shapeD R15
              have hX15 : Ext (fun k => w1.heap.size ≤ k) _ _ := hX3.trans (X15.mono (fun _ _ h => h.elim))
              refine .alt ?_ ?_
              · refine .s rfl rfl rfl (.storeAll (n := 3) (E := 46) (cs := [i64 0, .slice none 0 0, .slice none 0 0]) rfl rfl rfl rfl rfl (by first | exact N3.blk | exact N3.blk.ext0 .au) rfl) (by intro wz hP; exact hX15.trans (hP.ext.mono (by rintro k _ rfl; show w1.heap.size ≤ _; omega))) ?_
                intro ws P3
                have hXs6 : Ext (fun k => w1.heap.size ≤ k) _ _ := hX15.trans (P3.ext.mono (by rintro k _ rfl; show w1.heap.size ≤ _; omega))
                refine W1 ?_
                exact (meet (_, (a3, k3, a4, k4), ws) ⟨P3.blk, allOf (disk.tDisk.ext (by first | exact R15 | exact disk.tDisk.ext0 R15 N3.ext) P3.ext (fun k hk _ he => by have he : k = _ := he; obtain ⟨h1, h2⟩ := hk; omega)), (Ext.refl w1).then hXs6 (fun k hk _ => hk)⟩).of ⟨rfl, rfl, trivial⟩
              exact .stop
            exact .stop
          exact .stop
        refine .alt ?_ ?_
        · refine .v rfl rfl rfl rfl (.alloc rfl rfl) (by rintro _ _ ⟨_, hN⟩; exact hX13.trans hN.ext0) ?_
          rintro _ w3 ⟨rfl, N3⟩
          have X3 := N3.ext
          have z3 := N3.size
          have hX3 : Ext (fun k => w1.heap.size ≤ k) _ _ := hX13.trans (N3.ext0)
          refine .alt ?_ ?_
          · refine .v rfl rfl rfl rfl (.lits rfl rfl (fun _ => by kernel_rfl)) (by rintro _ _ ⟨_, hN⟩; exact hX3.trans hN.ext0) ?_
            rintro _ w14 ⟨rfl, N14⟩
            have R14 : (Sl tChange).rep All w14 (.slice _ 2 2) [cK 97 120, cK 98 121] := Sl.mk (us := [_, _]) (.cons (tChange.mk (x := cK 97 120) (by decide) (by decide)) (.cons (tChange.mk (x := cK 98 121) (by decide) (by decide)) .nil)) (by have := N14.blk.cells; exact this) trivial N14.blk.lt (by simp) (by simp [Lim]) rfl
            have X14 := N14.ext
            have z14 := N14.size
            have hX14 : Ext (fun k => w1.heap.size ≤ k) _ _ := hX3.trans (N14.ext0)
            refine .alt ?_ ?_
            · refine .cl rfl rfl rfl rfl rfl rfl (done_fn (a := a) (x := x) (allOf (disk.tDisk.ext (disk.tDisk.ext0 (disk.tDisk.mono R8 (P' := fun k => k < w8.heap.size) (fun k _ hl => hl)) Y1) hX14 (by intro k hk _ he; have he : w1.heap.size ≤ k := he; have hk : k < w8.heap.size := hk; omega))) (hg1.ext hX14 (fun he => by have he : w1.heap.size ≤ _ := he; have := hg1.lt; omega)) hb0 (by first | exact R14 | exact (Sl tChange).ext0 R14 N3.ext) wAXBY (by decide) ha hx1 hal ⟨by decide, by decide⟩) (by rintro _ _ ⟨_, hx⟩; exact hX14.trans (hx.mono (fun _ _ h => h.elim))) ?_
              rintro _ w15 ⟨R15, X15⟩
              have z15 := X15.size
              have R15 := disk.tDisk.mono R15 (P' := fun k => w14.heap.size ≤ k ∧ k < w15.heap.size) (fun k h hl => ⟨h, hl⟩)
              obtain ⟨a3, k3, a4, k4, rfl⟩ := shapeD R15
              have hX15 : Ext (fun k => w1.heap.size ≤ k) _ _ := hX14.trans (X15.mono (fun _ _ h => h.elim))
              refine .alt ?_ ?_
              · refine .s rfl rfl rfl (.storeAll (n := 3) (E := 46) (cs := [i64 0, .slice none 0 0, .slice none 0 0]) rfl rfl rfl rfl rfl (by first | exact N3.blk | exact N3.blk.ext0 .au) rfl) (by intro wz hP; exact hX15.trans (hP.ext.mono (by rintro k _ rfl; show w1.heap.size ≤ _; omega))) ?_
                intro ws P3
                have hXs6 : Ext (fun k => w1.heap.size ≤ k) _ _ := hX15.trans (P3.ext.mono (by rintro k _ rfl; show w1.heap.size ≤ _; omega))
                refine W1 ?_
                exact (meet (_, (a3, k3, a4, k4), ws) ⟨P3.blk, allOf (disk.tDisk.ext (by first | exact R15 | exact disk.tDisk.ext0 R15 N3.ext) P3.ext (fun k hk _ he => by have he : k = _ := he; obtain ⟨h1, h2⟩ := hk; omega)), (Ext.refl w1).then hXs6 (fun k hk _ => hk)⟩).of ⟨rfl, rfl, trivial⟩
              exact .stop
            exact .stop
          exact .stop
        exact .stop
      refine .alt ?_ ?_
      · refine .v rfl rfl rfl rfl (.alloc rfl rfl) (by rintro _ _ ⟨_, hN⟩; exact hX12.trans hN.ext0) ?_
        rintro _ w3 ⟨rfl, N3⟩
        have X3 := N3.ext
        have z3 := N3.size
        have hX3 : Ext (fun k => w1.heap.size ≤ k) _ _ := hX12.trans (N3.ext0)
        refine .alt ?_ ?_
        · refine .cl rfl rfl rfl rfl rfl rfl (putL_fn) (by rintro _ _ ⟨_, hx⟩; exact hX3.trans (hx.mono (fun _ _ h => h.elim))) ?_
          rintro _ w13 ⟨rfl, X13⟩
          have z13 := X13.size
          have hX13 : Ext (fun k => w1.heap.size ≤ k) _ _ := hX3.trans (X13.mono (fun _ _ h => h.elim))
          refine .alt ?_ ?_
          · refine .v rfl rfl rfl rfl (.lits rfl rfl (fun _ => by kernel_rfl)) (by rintro _ _ ⟨_, hN⟩; exact hX13.trans hN.ext0) ?_
            rintro _ w14 ⟨rfl, N14⟩
            have R14 : (Sl tChange).rep All w14 (.slice _ 2 2) [cK 97 120, cK 98 121] := Sl.mk (us := [_, _]) (.cons (tChange.mk (x := cK 97 120) (by decide) (by decide)) (.cons (tChange.mk (x := cK 98 121) (by decide) (by decide)) .nil)) (by have := N14.blk.cells; exact this) trivial N14.blk.lt (by simp) (by simp [Lim]) rfl
            have X14 := N14.ext
            have z14 := N14.size
            have hX14 : Ext (fun k => w1.heap.size ≤ k) _ _ := hX13.trans (N14.ext0)
            refine .alt ?_ ?_
            · refine .cl rfl rfl rfl rfl rfl rfl (done_fn (a := a) (x := x) (allOf (disk.tDisk.ext (disk.tDisk.ext0 (disk.tDisk.mono R8 (P' := fun k => k < w8.heap.size) (fun k _ hl => hl)) Y1) hX14 (by intro k hk _ he; have he : w1.heap.size ≤ k := he; have hk : k < w8.heap.size := hk; omega))) (hg1.ext hX14 (fun he => by have he : w1.heap.size ≤ _ := he; have := hg1.lt; omega)) hb0 (by first | exact R14 | exact (Sl tChange).ext0 R14 N3.ext) wAXBY (by decide) ha hx1 hal ⟨by decide, by decide⟩) (by rintro _ _ ⟨_, hx⟩; exact hX14.trans (hx.mono (fun _ _ h => h.elim))) ?_
              rintro _ w15 ⟨R15, X15⟩
              have z15 := X15.size
              have R15 := disk.tDisk.mono R15 (P' := fun k => w14.heap.size ≤ k ∧ k < w15.heap.size) (fun k h hl => ⟨h, hl⟩)
              obtain ⟨a3, k3, a4, k4, rfl⟩ := shapeD R15
              have hX15 : Ext (fun k => w1.heap.size ≤ k) _ _ := hX14.trans (X15.mono (fun _ _ h => h.elim))
              refine .alt ?_ ?_
              · refine .s rfl rfl rfl (.storeAll (n := 3) (E := 46) (cs := [i64 0, .slice none 0 0, .slice none 0 0]) rfl rfl rfl rfl rfl (by first | exact N3.blk | exact N3.blk.ext0 .au) rfl) (by intro wz hP; exact hX15.trans (hP.ext.mono (by rintro k _ rfl; show w1.heap.size ≤ _; omega))) ?_
                intro ws P3
                have hXs6 : Ext (fun k => w1.heap.size ≤ k) _ _ := hX15.trans (P3.ext.mono (by rintro k _ rfl; show w1.heap.size ≤ _; omega))
                refine W1 ?_
                exact (meet (_, (a3, k3, a4, k4), ws) ⟨P3.blk, allOf (disk.tDisk.ext (by first | exact R15 | exact disk.tDisk.ext0 R15 N3.ext) P3.ext (fun k hk _ he => by have he : k = _ := he; obtain ⟨h1, h2⟩ := hk; omega)), (Ext.refl w1).then hXs6 (fun k hk _ => hk)⟩).of ⟨rfl, rfl, trivial⟩
              exact .stop
            exact .stop
          exact .stop
        exact .stop
      exact .stop
    refine .alt ?_ ?_
    · refine .v rfl rfl rfl rfl (.alloc rfl rfl) (by rintro _ _ ⟨_, hN⟩; exact (Ext.refl _).trans hN.ext0) ?_
      rintro _ w3 ⟨rfl, N3⟩
      have X3 := N3.ext
      have z3 := N3.size
      have hX3 : Ext (fun k => w1.heap.size ≤ k) _ _ := (Ext.refl _).trans (N3.ext0)
      refine .alt ?_ ?_
      · refine .cl rfl rfl rfl rfl rfl rfl (putL_fn) (by rintro _ _ ⟨_, hx⟩; exact hX3.trans (hx.mono (fun _ _ h => h.elim))) ?_
        rintro _ w12 ⟨rfl, X12⟩
        have z12 := X12.size
        have hX12 : Ext (fun k => w1.heap.size ≤ k) _ _ := hX3.trans (X12.mono (fun _ _ h => h.elim))
        refine .alt ?_ ?_
        · refine .cl rfl rfl rfl rfl rfl rfl (putL_fn) (by rintro _ _ ⟨_, hx⟩; exact hX12.trans (hx.mono (fun _ _ h => h.elim))) ?_
          rintro _ w13 ⟨rfl, X13⟩
          have z13 := X13.size
          have hX13 : Ext (fun k => w1.heap.size ≤ k) _ _ := hX12.trans (X13.mono (fun _ _ h => h.elim))
          refine .alt ?_ ?_
          · refine .v rfl rfl rfl rfl (.lits rfl rfl (fun _ => by kernel_rfl)) (by rintro _ _ ⟨_, hN⟩; exact hX13.trans hN.ext0) ?_
            rintro _ w14 ⟨rfl, N14⟩
            have R14 : (Sl tChange).rep All w14 (.slice _ 2 2) [cK 97 120, cK 98 121] := Sl.mk (us := [_, _]) (.cons (tChange.mk (x := cK 97 120) (by decide) (by decide)) (.cons (tChange.mk (x := cK 98 121) (by decide) (by decide)) .nil)) (by have := N14.blk.cells; exact this) trivial N14.blk.lt (by simp) (by simp [Lim]) rfl
            have X14 := N14.ext
            have z14 := N14.size
            have hX14 : Ext (fun k => w1.heap.size ≤ k) _ _ := hX13.trans (N14.ext0)
            refine .alt ?_ ?_
            · refine .cl rfl rfl rfl rfl rfl rfl (done_fn (a := a) (x := x) (allOf (disk.tDisk.ext (disk.tDisk.ext0 (disk.tDisk.mono R8 (P' := fun k => k < w8.heap.size) (fun k _ hl => hl)) Y1) hX14 (by intro k hk _ he; have he : w1.heap.size ≤ k := he; have hk : k < w8.heap.size := hk; omega))) (hg1.ext hX14 (fun he => by have he : w1.heap.size ≤ _ := he; have := hg1.lt; omega)) hb0 (by first | exact R14 | exact (Sl tChange).ext0 R14 N3.ext) wAXBY (by decide) ha hx1 hal ⟨by decide, by decide⟩) (by rintro _ _ ⟨_, hx⟩; exact hX14.trans (hx.mono (fun _ _ h => h.elim))) ?_
              rintro _ w15 ⟨R15, X15⟩
              have z15 := X15.size
              have R15 := disk.tDisk.mono R15 (P' := fun k => w14.heap.size ≤ k ∧ k < w15.heap.size) (fun k h hl => ⟨h, hl⟩)
              obtain ⟨a3, k3, a4, k4, rfl⟩ := shapeD R15
              have hX15 : Ext (fun k => w1.heap.size ≤ k) _ _ := hX14.trans (X15.mono (fun _ _ h => h.elim))
              refine .alt ?_ ?_
              · refine .s rfl rfl rfl (.storeAll (n := 3) (E := 46) (cs := [i64 0, .slice none 0 0, .slice none 0 0]) rfl rfl rfl rfl rfl (by first | exact N3.blk | exact N3.blk.ext0 .au) rfl) (by intro wz hP; exact hX15.trans (hP.ext.mono (by rintro k _ rfl; show w1.heap.size ≤ _; omega))) ?_
                intro ws P3
                have hXs6 : Ext (fun k => w1.heap.size ≤ k) _ _ := hX15.trans (P3.ext.mono (by rintro k _ rfl; show w1.heap.size ≤ _; omega))
                refine W1 ?_
                exact (meet (_, (a3, k3, a4, k4), ws) ⟨P3.blk, allOf (disk.tDisk.ext (by first | exact R15 | exact disk.tDisk.ext0 R15 N3.ext) P3.ext (fun k hk _ he => by have he : k = _ := he; obtain ⟨h1, h2⟩ := hk; omega)), (Ext.refl w1).then hXs6 (fun k hk _ => hk)⟩).of ⟨rfl, rfl, trivial⟩
              exact .stop
            exact .stop
          exact .stop
        exact .stop
      exact .stop
    exact .stop
end Go.Proofs.YthliepcjfnjnoaaGreatDoor
namespace Go.Proofs.YthliepcjfnjnoaaGreatDoor
open Go page tree
theorem TreeBack_fn {w : World} {vl : Value} {l : List Change} {seq : Int} {src : Bs} (hl : (Sl tChange).rep All w vl l) (hb : l.length ≤ 1048576) (hs : src.length < Lim) (hg : files.GOK w) : Fn Tryz.prog 3 [vl, i64 seq, str src] w (fun r w2 => r = .bool true ∧ Ext (fun _ => False) w w2) := by
  obtain ⟨al, kl, rfl, _⟩ := Sl.val hl
  refine Fn.enter (fun w => Tryz.call3 _ w) Tryz.func3 rfl ?_
  refine W7 ?_
  refine .cl rfl rfl rfl rfl (tAlive_fn hg) ?_
  rintro _ w18 ⟨rfl, X18⟩
  have z18 := X18.size
  refine W17 ?_
  refine .cl rfl rfl rfl rfl (THeavy_fn ((Sl tChange).ext0 hl .au) hb) ?_
  rintro _ w22 ⟨⟨q, rfl⟩, X22⟩
  have z22 := X22.size
  refine W1 ?_
  refine .case 23 rfl (fun c23 => ?_) (fun c23 => ?_)
  · refine W13 ?_
    refine .ret _ rfl ?_
    exact ⟨rfl, .au⟩
  · refine W6 ?_
    refine .condD rfl (fun c27 => ?_) (fun c27 => ?_)
    · refine W6 ?_
      refine .ret _ rfl ?_
      exact ⟨rfl, .au⟩
    · refine W6 ?_
      refine .cl rfl rfl rfl rfl (TWrite_fn (seq := seq) ((Sl tChange).ext0 hl .au)) ?_
      rintro _ w32 ⟨rfl, X32⟩
      have z32 := X32.size
      refine W14 ?_
      refine .keep [(36, _), (8, _), (7, _), (0, _), (1, _), (2, _)] ⟨rfl, rfl, rfl, rfl, rfl, rfl, trivial⟩ ?_
      refine .meet (S := World) (fun s => [(2, str src), (7, .bool true)]) (fun s => s) (fun s => Ext (fun _ => False) w s) ?_ ?_
      · intro wm Xm
        refine W4 ?_
        refine .cl rfl rfl rfl rfl (TRead_fn hs) ?_
        rintro _ w63 ⟨v63, rfl, O63, X63⟩
        have z63 := X63.size
        have R63 := OwnO.rep O63 (R := All) (fun _ _ _ => trivial) (fun _ _ _ => trivial)
        refine W16 ?_
        refine .condD rfl (fun c68 => ?_) (fun c68 => ?_)
        · rw [readT_bad c68] at R63
          obtain ⟨a63, k63, rfl, _⟩ := Sl.val R63
          refine W5 ?_
          refine .p rfl rfl (.yes (.eq rfl rfl) (by rw [readT_bad c68])) ?_
          refine W4 ?_
          refine .p rfl rfl (.yes (.eq rfl rfl) (rfl)) ?_
          refine W3 ?_
          refine .p rfl rfl (.yes (.eq rfl rfl) (by rw [readT_bad c68])) ?_
          refine W4 ?_
          refine .ret _ rfl ?_
          exact ⟨rfl, .au⟩
        · refine W6 ?_
          refine .cl rfl rfl rfl rfl (TWrite_fn (seq := (readT src).2.1) R63) ?_
          rintro _ w86 ⟨rfl, X86⟩
          have z86 := X86.size
          rw [readT_ok (Decidable.not_not.1 c68)]
          refine W12 ?_
          refine .p rfl rfl (.yes (.eq rfl rfl) (rfl)) ?_
          refine W4 ?_
          refine .p rfl rfl (.yes (.eqS rfl rfl) rfl) ?_
          refine W4 ?_
          refine .ret _ rfl ?_
          exact ⟨rfl, .au⟩
      · intro meet
        refine .condD rfl (fun c36 => ?_) (fun c36 => ?_)
        · refine W3 ?_
          refine .cl rfl rfl rfl rfl (TRead_fn (by have := (wF_ok c36).2.2.2.2.2; rw [this]; have := (wF_ok c36).2.2.2.2.1; show (bodyC l seq).length < _; simp only [Lim]; omega)) ?_
          rintro _ w39 ⟨v39, rfl, O39, X39⟩
          have z39 := X39.size
          rw [record_back c36] at O39 ⊢
          have R39 := allOf (OwnO.rep O39 (R := All) (fun _ _ _ => trivial) (fun _ _ _ => trivial))
          obtain ⟨a39, k39, rfl, _⟩ := Sl.val R39
          refine W12 ?_
          refine .p rfl rfl (.no (.ne rfl rfl) (fun h => h rfl)) ?_
          refine W3 ?_
          refine .p rfl rfl (.no (.ne rfl rfl) (fun h => h rfl)) ?_
          refine W4 ?_
          refine .cl rfl rfl rfl rfl (same_fn ((Sl tChange).ext0 hl .au) R39) ?_
          rintro _ w53 ⟨rfl, X53⟩
          have z53 := X53.size
          rw [decide_eq_true (rfl : l = l)]
          refine W5 ?_
          refine .p rfl rfl (.no (.gt rfl rfl) (by have h6 := (wF_ok c36).2.2.2.2.2; have h5 := (wF_ok c36).2.2.2.2.1; rw [h6]; show ¬ (4096 : Int) < ((bodyC l seq).length : Int); omega)) ?_
          refine W3 ?_
          refine .keep [(60, _), (7, _), (2, _)] ⟨rfl, rfl, rfl, trivial⟩ ?_
          refine W2 ?_
          exact (meet _ .au).of ⟨rfl, rfl, trivial⟩
        · refine W1 ?_
          exact (meet _ .au).of ⟨rfl, rfl, trivial⟩
end Go.Proofs.YthliepcjfnjnoaaGreatDoor
