import Derived.Test.YtpfehnopghffjaaGreatDoorD09
import Derived.Test.YtpfehnopghffjaaGreatDoorD11
set_option linter.unusedVariables false
set_option linter.unusedSimpArgs false
set_option maxRecDepth 20000
namespace Go.Proofs.YtpfehnopghffjaaGreatDoor
open Go
open room files
attribute [local irreducible] readD slotB slotF mountF slotOK checkR disk.readF findTo findF writeF nameF sectE bytesF
theorem refSameDirT_fn {w : World} {v u : Value} {x : Dir} (ha : tDir.rep All w v x) (hb : tDir.rep All w u x) : Fn Tryz.prog 16 [v, u] w (fun r w2 => r = .bool true ∧ Ext (fun _ => False) w w2) := by
  obtain ⟨a, cap, rfl, hf, hg⟩ := tDir.val ha
  obtain ⟨a', cap', rfl, hf', _⟩ := tDir.val hb
  have hlim := Sl.lim hf
  simp only [Lim] at hlim
  refine Fn.enter (fun w => Tryz.call16 _ w) Tryz.func16 rfl ?_
  refine .seq (.region ?_)
  refine .v rfl rfl (.box rfl) ?_
  rintro _ w2 ⟨rfl, N2⟩
  have B2 := N2.blk
  have X2 := N2.ext
  have z2 := N2.size
  refine .v rfl rfl (.box rfl) ?_
  rintro _ w3 ⟨rfl, N3⟩
  have B3 := N3.blk
  have X3 := N3.ext
  have z3 := N3.size
  refine .p rfl rfl (.as rfl) ?_
  refine .nil (.code (.seq (.seq (.keep [(3, _), (2, _)] ⟨rfl, rfl, trivial⟩ (.region ?_)))))
  refine .p rfl rfl (.fieldAddr rfl rfl rfl rfl) ?_
  refine .p rfl rfl (.load rfl rfl rfl ((B2.ext (S := fun _ => False) (by repeat (first | exact Ext.refl _ | assumption | refine Ext.trans (by assumption) ?_)) (fun x => x)).cell 0)) ?_
  refine .p rfl rfl (.fieldAddr rfl rfl rfl rfl) ?_
  refine .p rfl rfl (.load rfl rfl rfl ((B3.ext (S := fun _ => False) (by repeat (first | exact Ext.refl _ | assumption | refine Ext.trans (by assumption) ?_)) (fun x => x)).cell 0)) ?_
  refine .p rfl rfl (.no (.ne rfl rfl) (fun h => h rfl)) ?_
  refine .p rfl rfl (.mv rfl) ?_
  refine .p rfl rfl (.fieldAddr rfl rfl rfl rfl) ?_
  refine .p rfl rfl (.load rfl rfl rfl ((B2.ext (S := fun _ => False) (by repeat (first | exact Ext.refl _ | assumption | refine Ext.trans (by assumption) ?_)) (fun x => x)).cell 1)) ?_
  refine .p rfl rfl (.len rfl rfl) ?_
  refine .p rfl rfl (.fieldAddr rfl rfl rfl rfl) ?_
  refine .p rfl rfl (.load rfl rfl rfl ((B3.ext (S := fun _ => False) (by repeat (first | exact Ext.refl _ | assumption | refine Ext.trans (by assumption) ?_)) (fun x => x)).cell 1)) ?_
  refine .p rfl rfl (.len rfl rfl) ?_
  refine .p rfl rfl (.no (.ne rfl rfl) (fun h => h rfl)) ?_
  refine .p rfl rfl (.pickF rfl rfl) ?_
  refine .nil (.code (.keep [(21, _), (3, _), (2, _)] ⟨rfl, rfl, rfl, trivial⟩ (.condF rfl (.skip (.code (.seq (.seq (.keep [(3, _), (2, _)] ⟨rfl, rfl, trivial⟩ (.region ?_)))))))))
  refine .p rfl rfl (.as rfl) ?_
  refine .nil (.code (.block ?_))
  refine .loop (S := Nat × World) (fun s => [(2, .pointer (some ⟨w.heap.size, 0, none⟩)), (3, .pointer (some ⟨w2.heap.size, 0, none⟩)), (5, i64 s.1)]) (fun s => s.2) (fun s => s.1 ≤ x.fs.length ∧ Ext (fun _ => False) w3 s.2) (fun s => x.fs.length - s.1) (0, w3) ⟨rfl, rfl, rfl, trivial⟩ rfl ⟨Nat.zero_le _, .refl _⟩ ?_
  rintro ⟨i, wi⟩ J ⟨hi', hX⟩ again
  simp only at hi' hX
  have zi := hX.size
  change G _ [(2, .pointer (some ⟨w.heap.size, 0, none⟩)), (3, .pointer (some ⟨w2.heap.size, 0, none⟩)), (5, i64 i)] _ _ wi
  refine .seq (.seq (.region ?_))
  refine .p rfl rfl (.mv rfl) ?_
  refine .p rfl rfl (.fieldAddr rfl rfl rfl rfl) ?_
  refine .p rfl rfl (.load rfl rfl rfl ((B2.ext (S := fun _ => False) (by repeat (first | exact Ext.refl _ | assumption | refine Ext.trans (by assumption) ?_)) (fun x => x)).cell 1)) ?_
  refine .p rfl rfl (.len rfl rfl) ?_
  refine .p rfl rfl (.lt rfl rfl) ?_
  refine .nil (.code (.keep [(26, _), (2, _), (3, _), (5, _)] ⟨rfl, rfl, rfl, rfl, trivial⟩ ?_))
  refine .condD rfl (fun c26 => ?_) (fun c26 => ?_)
  · have hi : i < x.fs.length := by omega
    obtain ⟨b1, o1, q1, ue1, e1, _, hcs, hre⟩ := Sl.at hf (List.getElem?_eq_getElem hi)
    cases e1
    obtain ⟨fa1, fc1, rfl, hps, hnm, hsz⟩ := tFile.val hre
    obtain ⟨b2, o2, q2, ue2, e2, _, hcs', hre'⟩ := Sl.at hf' (List.getElem?_eq_getElem hi)
    cases e2
    obtain ⟨fa2, fc2, rfl, hps', hnm', hsz'⟩ := tFile.val hre'
    refine .skip (.code (.seq (.block (.seq (.keep [(2, _), (3, _), (5, _)] ⟨rfl, rfl, rfl, trivial⟩ ?_)))))
    refine .meet (S := Nat × Nat × World) (fun s => [(2, .pointer (some ⟨w.heap.size, 0, none⟩)), (3, .pointer (some ⟨w2.heap.size, 0, none⟩)), (5, i64 (i : Nat)), (6, .pointer (some ⟨s.1, 0, none⟩)), (7, .pointer (some ⟨s.2.1, 0, none⟩))]) (fun s => s.2.2) (fun s => Blk s.2.2 s.1 28 [str x.fs[i].name, i64 x.fs[i].size, .slice fa1 x.fs[i].ps.length fc1] ∧ Blk s.2.2 s.2.1 28 [str x.fs[i].name, i64 x.fs[i].size, .slice fa2 x.fs[i].ps.length fc2] ∧ Ext (fun _ => False) wi s.2.2) ?_ ?_
    · rintro ⟨p6, p7, wm⟩ ⟨B6, B7, Xm⟩
      simp only at B6 B7 Xm
      have zm := Xm.size
      change A _ [(2, .pointer (some ⟨w.heap.size, 0, none⟩)), (3, .pointer (some ⟨w2.heap.size, 0, none⟩)), (5, i64 (i : Nat)), (6, .pointer (some ⟨p6, 0, none⟩)), (7, .pointer (some ⟨p7, 0, none⟩))] _ wm
      refine .code (.seq (.region ?_))
      refine .p rfl rfl (.fieldAddr rfl rfl rfl rfl) ?_
      refine .p rfl rfl (.load rfl rfl rfl ((B6.ext (S := fun _ => False) (by repeat (first | exact Ext.refl _ | assumption | refine Ext.trans (by assumption) ?_)) (fun x => x)).cell 0)) ?_
      refine .p rfl rfl (.fieldAddr rfl rfl rfl rfl) ?_
      refine .p rfl rfl (.load rfl rfl rfl ((B7.ext (S := fun _ => False) (by repeat (first | exact Ext.refl _ | assumption | refine Ext.trans (by assumption) ?_)) (fun x => x)).cell 0)) ?_
      refine .p rfl rfl (.no (.neS rfl rfl) (fun h => h rfl)) ?_
      refine .p rfl rfl (.mv rfl) ?_
      refine .p rfl rfl (.fieldAddr rfl rfl rfl rfl) ?_
      refine .p rfl rfl (.load rfl rfl rfl ((B6.ext (S := fun _ => False) (by repeat (first | exact Ext.refl _ | assumption | refine Ext.trans (by assumption) ?_)) (fun x => x)).cell 1)) ?_
      refine .p rfl rfl (.fieldAddr rfl rfl rfl rfl) ?_
      refine .p rfl rfl (.load rfl rfl rfl ((B7.ext (S := fun _ => False) (by repeat (first | exact Ext.refl _ | assumption | refine Ext.trans (by assumption) ?_)) (fun x => x)).cell 1)) ?_
      refine .p rfl rfl (.no (.ne rfl rfl) (fun h => h rfl)) ?_
      refine .p rfl rfl (.pickF rfl rfl) ?_
      refine .p rfl rfl (.mv rfl) ?_
      refine .p rfl rfl (.fieldAddr rfl rfl rfl rfl) ?_
      refine .p rfl rfl (.load rfl rfl rfl ((B6.ext (S := fun _ => False) (by repeat (first | exact Ext.refl _ | assumption | refine Ext.trans (by assumption) ?_)) (fun x => x)).cell 2)) ?_
      refine .p rfl rfl (.fieldAddr rfl rfl rfl rfl) ?_
      refine .p rfl rfl (.load rfl rfl rfl ((B7.ext (S := fun _ => False) (by repeat (first | exact Ext.refl _ | assumption | refine Ext.trans (by assumption) ?_)) (fun x => x)).cell 2)) ?_
      refine .call (first := []) (captured := []) rfl rfl rfl rfl (RefSameT_fn (allOf ((Sl tPiece).ext0 hps (by repeat (first | exact Ext.refl _ | assumption | refine Ext.trans (by assumption) ?_)))) (allOf ((Sl tPiece).ext0 hps' (by repeat (first | exact Ext.refl _ | assumption | refine Ext.trans (by assumption) ?_))))) ?_
      rintro _ w56 ⟨rfl, X56⟩
      have z56 := X56.size
      refine .p rfl rfl (.not rfl) ?_
      refine .p rfl rfl (.pickF rfl rfl) ?_
      refine .nil (.code (.keep [(58, _), (2, _), (3, _), (5, _)] ⟨rfl, rfl, rfl, rfl, trivial⟩ (.condF rfl (.skip (.blk (.code (.keep [(2, _), (3, _), (5, _)] ⟨rfl, rfl, rfl, trivial⟩ (.region ?_))))))))
      refine .p rfl rfl (.mv rfl) ?_
      refine .p rfl rfl (.add rfl rfl (by omega)) ?_
      refine .p rfl rfl (.as rfl) ?_
      refine .nil ?_
      exact (again (i + 1, w56) ⟨by show i + 1 ≤ _; omega, (by repeat (first | exact Ext.refl _ | assumption | refine Ext.trans (by assumption) ?_))⟩ (by show _ - (i + 1) < _ - i; omega)).of ⟨rfl, rfl, rfl, trivial⟩
    · intro meet
      refine .tree (fun k => wi.heap.size ≤ k) [10, 11, 12, 13] (.op 0 (.op 1 (.op 2 (.op 3 (.op 4 (.op 5 (.op 6 (.op 7 (.op 8 (.op 9 (.alt 10 (.op 10 (.alt 11 (.op 11 (.alt 12 (.op 12 (.alt 13 (.op 13 (.nil)) (.stop))) (.stop))) (.stop))) (.alt 11 (.op 11 (.alt 10 (.op 10 (.alt 12 (.op 12 (.alt 13 (.op 13 (.nil)) (.stop))) (.stop))) (.stop))) (.stop))))))))))))) (by kernel_rfl) (by kernel_rfl) (by kernel_rfl) ?_
      refine .p rfl rfl rfl rfl (fun wx hx => .fieldAddr rfl rfl rfl rfl) ?_
      refine .p rfl rfl rfl rfl (fun wx hx => .load rfl rfl rfl ((B2.ext (S := fun _ => False) (Ext.then (S := fun k => wi.heap.size ≤ k) (by repeat (first | exact Ext.refl _ | assumption | refine Ext.trans (by assumption) ?_)) hx (fun k h _ => by have h : wi.heap.size ≤ k := h; omega)) (fun x => x)).cell 1)) ?_
      refine .p rfl rfl rfl rfl (fun wx hx => .mv rfl) ?_
      refine .p rfl rfl rfl rfl (fun wx hx => .indexAddr (s := 3) rfl rfl rfl rfl (by omega)) ?_
      refine .p rfl rfl rfl rfl (fun wx hx => .loadA (n := 3) rfl rfl rfl rfl rfl (hcs.ext (S := fun _ => False) (Ext.then (S := fun k => wi.heap.size ≤ k) (by repeat (first | exact Ext.refl _ | assumption | refine Ext.trans (by assumption) ?_)) hx (fun k h _ => by have h : wi.heap.size ≤ k := h; omega)) (fun x => x))) ?_
      refine .p rfl rfl rfl rfl (fun wx hx => .fieldAddr rfl rfl rfl rfl) ?_
      refine .p rfl rfl rfl rfl (fun wx hx => .load rfl rfl rfl ((B3.ext (S := fun _ => False) (Ext.then (S := fun k => wi.heap.size ≤ k) (by repeat (first | exact Ext.refl _ | assumption | refine Ext.trans (by assumption) ?_)) hx (fun k h _ => by have h : wi.heap.size ≤ k := h; omega)) (fun x => x)).cell 1)) ?_
      refine .p rfl rfl rfl rfl (fun wx hx => .mv rfl) ?_
      refine .p rfl rfl rfl rfl (fun wx hx => .indexAddr (s := 3) rfl rfl rfl rfl (by omega)) ?_
      refine .p rfl rfl rfl rfl (fun wx hx => .loadA (n := 3) rfl rfl rfl rfl rfl (hcs'.ext (S := fun _ => False) (Ext.then (S := fun k => wi.heap.size ≤ k) (by repeat (first | exact Ext.refl _ | assumption | refine Ext.trans (by assumption) ?_)) hx (fun k h _ => by have h : wi.heap.size ≤ k := h; omega)) (fun x => x))) ?_
      refine .alt ?_ ?_
      · refine .v rfl rfl rfl rfl (.alloc rfl rfl) (by rintro _ _ ⟨_, hN⟩; exact ((Ext.refl _)).trans hN.ext0) ?_
        rintro _ w6 ⟨rfl, N6⟩
        have hX6 : Ext (fun k => wi.heap.size ≤ k) _ _ := (Ext.refl _).trans (N6.ext0)
        have z6 := N6.size
        refine .alt ?_ ?_
        · refine .v rfl rfl rfl rfl (.alloc rfl rfl) (by rintro _ _ ⟨_, hN⟩; exact hX6.trans hN.ext0) ?_
          rintro _ w7 ⟨rfl, N7⟩
          have hX7 : Ext (fun k => wi.heap.size ≤ k) _ _ := hX6.trans (N7.ext0)
          have z7 := N7.size
          refine .alt ?_ ?_
          · refine .s rfl rfl rfl (.storeAll (n := 3) (E := 28) (cs := [str [], i64 0, .slice none 0 0]) rfl rfl rfl rfl rfl (by first | exact N6.blk.ext N7.ext (fun x => x) | exact N6.blk) rfl) (by intro wz hP; exact hX7.trans (hP.ext.mono (by rintro k _ rfl; show wi.heap.size ≤ _; omega))) ?_
            intro w12 P12
            have hXs12 : Ext (fun k => wi.heap.size ≤ k) _ _ := hX7.trans (P12.ext.mono (by rintro k _ rfl; show wi.heap.size ≤ _; omega))
            refine .alt ?_ ?_
            · refine .s rfl rfl rfl (.storeAll (n := 3) (E := 28) (cs := [str [], i64 0, .slice none 0 0]) rfl rfl rfl rfl rfl (by first | exact (N7.blk.ext N6.ext (fun x => x)).ext P12.ext (by omega) | exact N7.blk.ext P12.ext (by omega)) rfl) (by intro wz hP; exact hXs12.trans (hP.ext.mono (by rintro k _ rfl; show wi.heap.size ≤ _; omega))) ?_
              intro w13 P13
              have hXs13 : Ext (fun k => wi.heap.size ≤ k) _ _ := hXs12.trans (P13.ext.mono (by rintro k _ rfl; show wi.heap.size ≤ _; omega))
              refine .nil ?_
              exact (meet (wi.heap.size, w6.heap.size, w13) ⟨P12.blk.ext P13.ext (by omega), P13.blk, (Ext.refl wi).then (S := fun k => wi.heap.size ≤ k) hXs13 (fun k h _ => h)⟩).of ⟨rfl, rfl, rfl, rfl, rfl, trivial⟩
            exact .stop
          exact .stop
        exact .stop
      refine .alt ?_ ?_
      · refine .v rfl rfl rfl rfl (.alloc rfl rfl) (by rintro _ _ ⟨_, hN⟩; exact ((Ext.refl _)).trans hN.ext0) ?_
        rintro _ w7 ⟨rfl, N7⟩
        have hX7 : Ext (fun k => wi.heap.size ≤ k) _ _ := (Ext.refl _).trans (N7.ext0)
        have z7 := N7.size
        refine .alt ?_ ?_
        · refine .v rfl rfl rfl rfl (.alloc rfl rfl) (by rintro _ _ ⟨_, hN⟩; exact hX7.trans hN.ext0) ?_
          rintro _ w6 ⟨rfl, N6⟩
          have hX6 : Ext (fun k => wi.heap.size ≤ k) _ _ := hX7.trans (N6.ext0)
          have z6 := N6.size
          refine .alt ?_ ?_
          · refine .s rfl rfl rfl (.storeAll (n := 3) (E := 28) (cs := [str [], i64 0, .slice none 0 0]) rfl rfl rfl rfl rfl (by first | exact N6.blk.ext N7.ext (fun x => x) | exact N6.blk) rfl) (by intro wz hP; exact hX6.trans (hP.ext.mono (by rintro k _ rfl; show wi.heap.size ≤ _; omega))) ?_
            intro w12 P12
            have hXs12 : Ext (fun k => wi.heap.size ≤ k) _ _ := hX6.trans (P12.ext.mono (by rintro k _ rfl; show wi.heap.size ≤ _; omega))
            refine .alt ?_ ?_
            · refine .s rfl rfl rfl (.storeAll (n := 3) (E := 28) (cs := [str [], i64 0, .slice none 0 0]) rfl rfl rfl rfl rfl (by first | exact (N7.blk.ext N6.ext (fun x => x)).ext P12.ext (by omega) | exact N7.blk.ext P12.ext (by omega)) rfl) (by intro wz hP; exact hXs12.trans (hP.ext.mono (by rintro k _ rfl; show wi.heap.size ≤ _; omega))) ?_
              intro w13 P13
              have hXs13 : Ext (fun k => wi.heap.size ≤ k) _ _ := hXs12.trans (P13.ext.mono (by rintro k _ rfl; show wi.heap.size ≤ _; omega))
              refine .nil ?_
              exact (meet (w7.heap.size, wi.heap.size, w13) ⟨P12.blk.ext P13.ext (by omega), P13.blk, (Ext.refl wi).then (S := fun k => wi.heap.size ≤ k) hXs13 (fun k h _ => h)⟩).of ⟨rfl, rfl, rfl, rfl, rfl, trivial⟩
            exact .stop
          exact .stop
        exact .stop
      exact .stop
  · refine .exit rfl (.code (.seq (.keep [] trivial (.region ?_))))
    refine .p rfl rfl (.as rfl) ?_
    refine .nil (.code ?_)
    refine .ret _ rfl ?_
    exact ⟨rfl, (by repeat (first | exact Ext.refl _ | assumption | refine Ext.trans (by assumption) ?_))⟩
end Go.Proofs.YtpfehnopghffjaaGreatDoor
namespace Go.Proofs.YtpfehnopghffjaaGreatDoor
open Go
open room files
namespace files
noncomputable def b1 : Bs := (writeF ⟨1, []⟩).1
end files
end Go.Proofs.YtpfehnopghffjaaGreatDoor
namespace Go.Proofs.YtpfehnopghffjaaGreatDoor
open Go
open room files
namespace files
def largeP (d : Disk) : Prop := (40000 < d.data.length ∧ 0 < d.count ∧ d.count ≤ 4096) ∨ 600000 < d.data.length ∨ 300 < d.waits.length
instance (d : Disk) : Decidable (files.largeP d) := by unfold files.largeP; infer_instance
end files
end Go.Proofs.YtpfehnopghffjaaGreatDoor
namespace Go.Proofs.YtpfehnopghffjaaGreatDoor
open Go
open room files
attribute [local irreducible] readD writeF
def WrS (E : TypeId) (s : Nat) (W : World) (Q : Nat → Prop) (v : Value) (n : Nat) : Prop := (n = 0 ∧ v = .slice none 0 0) ∨ ∃ b c ds, v = .slice (some ⟨b, 0, none⟩) n c ∧ Q b ∧ Blk W b E ds ∧ n * s ≤ ds.length
section
variable {E : TypeId} {s : Nat} {W W2 : World} {Q S : Nat → Prop} {v : Value} {n k b : Nat} {ds ds' : List Value}
theorem WrS.put (h : WrS E s W Q v n) (hB : Blk W b E ds) (P : Go.Proofs.YtpfehnopghffjaaGreatDoor.Put W W2 b E ds') (hl : ds'.length = ds.length) : WrS E s W2 Q v n := by
  rcases h with h | ⟨b1, c, ds1, rfl, hq, hB1, hn⟩
  · exact .inl h
  · by_cases e : b1 = b
    · subst e
      have := hB1.inj hB
      subst this
      exact .inr ⟨b1, c, _, rfl, hq, P.blk, by omega⟩
    · exact .inr ⟨b1, c, ds1, rfl, hq, hB1.ext P.ext e, hn⟩
theorem WrS.ext (h : WrS E s W Q v n) (hx : Ext S W W2) (hs : ∀ k, Q k → ¬ S k) : WrS E s W2 Q v n := by
  rcases h with h | ⟨b1, c, ds1, rfl, hq, hB1, hn⟩
  · exact .inl h
  · exact .inr ⟨b1, c, ds1, rfl, hq, hB1.ext hx (hs b1 hq), hn⟩
theorem WrS.blk {a : Option Addr} {c : Nat} (h : WrS E s W Q (.slice a n c) n) (hk : k < n) : ∃ b ds, a = some ⟨b, 0, none⟩ ∧ Q b ∧ Blk W b E ds ∧ n * s ≤ ds.length := by
  rcases h with ⟨rfl, _⟩ | ⟨b1, c, ds1, e, hq, hB1, hn⟩
  · omega
  · cases e
    exact ⟨b1, ds1, rfl, hq, hB1, hn⟩
end
theorem WrS.ofP {W : World} {Q : Nat → Prop} {v : Value} {l : List Piece} (h : OwnO tPiece (fun _ => False) 40 W v l Q) : WrS 40 2 W Q v l.length := by
  rcases h with ⟨h1, h2⟩ | ⟨b, h1, h2, hl, ⟨rfl, h3⟩ | ⟨cap, us, sp, e1, e2, e3, e4, e5⟩⟩
  · exact .inl ⟨by rw [h1]; rfl, h2⟩
  · exact .inl ⟨rfl, h3⟩
  · refine .inr ⟨b, cap, _, e1, h1, e4, ?_⟩
    have hsz : ∀ u ∈ us, u.cells.size = 2 := e3.mem (n := 2) (fun u x h => tPiece.sz h)
    rw [List.length_append, flat_length hsz, e3.length]
    omega
def WrF (W : World) (Q : Nat → Prop) (v : Value) (fs : List File) : Prop := fs = [] ∨ ∃ b c cs, v = .slice (some ⟨b, 0, none⟩) fs.length c ∧ ¬ Q b ∧ Blk W b 28 cs ∧ ∀ i (h : i < fs.length), ∃ a k, cs[i * 3 + 2]? = some (.slice a fs[i].ps.length k) ∧ WrS 40 2 W Q (.slice a fs[i].ps.length k) fs[i].ps.length
theorem WrF.of {W : World} {Q B : Nat → Prop} {v : Value} {fs : List File} (h : OwnO tFileO Q 28 W v fs B) (hBQ : ∀ k, B k → ¬ Q k) : WrF W Q v fs := by
  rcases h with ⟨h1, h2⟩ | ⟨b, h1, h2, hl, ⟨rfl, h3⟩ | ⟨cap, us, sp, e1, e2, e3, e4, e5⟩⟩
  · exact .inl h1
  · exact .inl rfl
  · refine .inr ⟨b, cap, _, e1, hBQ b h1, e4, fun i hi => ?_⟩
    have hsz : ∀ u ∈ us, u.cells.size = 3 := e3.mem (n := 3) (fun u x h => tFileO.sz h)
    obtain ⟨u, hu, hr⟩ := e3.get (List.getElem?_eq_getElem hi)
    obtain ⟨a, k, rfl, ho, _⟩ := tFileO.val hr
    refine ⟨a, k, ?_, WrS.ofP ho⟩
    have hlt : i < us.length := (List.getElem?_eq_some_iff.1 hu).1
    have hd := flat_drop i hsz
    have hu2 : us.drop i = Value.agg #[str fs[i].name, i64 fs[i].size, .slice a fs[i].ps.length k] :: us.drop (i + 1) := by
      rw [List.getElem?_eq_getElem hlt] at hu
      rw [List.drop_eq_getElem_cons hlt]
      simp at hu
      rw [hu]
    rw [hu2, flat_cons] at hd
    have hfl : (flat us).length = us.length * 3 := flat_length hsz
    rw [List.getElem?_append_left (by omega), ← List.getElem?_drop, ← hd]
    rfl
theorem WrF.put {W W2 : World} {Q : Nat → Prop} {v : Value} {fs : List File} {b : Nat} {ds ds' : List Value} (h : WrF W Q v fs) (hq : Q b) (hB : Blk W b 40 ds) (P : Go.Proofs.YtpfehnopghffjaaGreatDoor.Put W W2 b 40 ds') (hl : ds'.length = ds.length) : WrF W2 Q v fs := by
  rcases h with h | ⟨bF, c, cs, e, hn, hF, hel⟩
  · exact .inl h
  · refine .inr ⟨bF, c, cs, e, hn, hF.ext P.ext (fun e => hn (by have e : bF = b := e; rw [e]; exact hq)), fun i hi => ?_⟩
    obtain ⟨a, k, h1, h2⟩ := hel i hi
    exact ⟨a, k, h1, h2.put hB P hl⟩
theorem WrF.ext0 {W W2 : World} {Q : Nat → Prop} {v : Value} {fs : List File} (h : WrF W Q v fs) (hx : Ext (fun _ => False) W W2) : WrF W2 Q v fs := by
  rcases h with h | ⟨bF, c, cs, e, hn, hF, hel⟩
  · exact .inl h
  · refine .inr ⟨bF, c, cs, e, hn, hF.ext hx (fun x => x), fun i hi => ?_⟩
    obtain ⟨a, k, h1, h2⟩ := hel i hi
    exact ⟨a, k, h1, h2.ext hx (fun _ _ x => x)⟩
theorem WrF.at {W : World} {Q : Nat → Prop} {a : Option Addr} {c : Nat} {fs : List File} (h : WrF W Q (.slice a fs.length c) fs) {i : Nat} (hi : i < fs.length) : ∃ b, a = some ⟨b, 0, none⟩ ∧ ∃ x k, W.cell? ⟨b, i * 3 + 2, none⟩ = some (.slice x fs[i].ps.length k) ∧ WrS 40 2 W Q (.slice x fs[i].ps.length k) fs[i].ps.length := by
  rcases h with h | ⟨bF, c', cs, e, hn, hF, hel⟩
  · subst h; exact absurd hi (Nat.not_lt_zero _)
  · cases e
    obtain ⟨x, k, h1, h2⟩ := hel i hi
    exact ⟨bF, rfl, x, k, (hF.cell _).trans h1, h2⟩
namespace files
theorem allP_bd : ∀ (l : List File), (∀ f ∈ l, f.ps.length ≤ 5000) → (allP l).length ≤ l.length * 5000
  | [], _ => Nat.le_refl _
  | f :: l, h => by
    have h1 := allP_bd l (fun g hg => h g (by simp [hg]))
    have h2 := h f (by simp)
    show (f.ps ++ allP l).length ≤ (l.length + 1) * 5000
    rw [List.length_append]
    omega
end files
theorem FilesDirs_fn {w : World} {v v1 : Value} {x : Dir} {b : Bs} (h : tDir.rep All w v x) (hb : tBytes.rep All w v1 b) (hg : GOK w) : Fn Tryz.prog 3 [v, v1] w (fun r w2 => r = .bool true ∧ Ext (fun _ => False) w w2) := by
  have h0 := h
  have Rb := tBytes.mono hb (P' := fun k => k < w.heap.size) (fun k _ h => h)
  obtain ⟨a0, k0, rfl, hf0, hg0⟩ := tDir.val h
  obtain ⟨ab, kb, rfl, _⟩ := Sl.val hb
  have hlim := Sl.lim hf0
  simp only [Lim] at hlim
  refine Fn.enter (fun w => Tryz.call3 _ w) Tryz.func3 rfl ?_
  refine .seq (.region ?_)
  refine .v rfl rfl (.box rfl) ?_
  rintro _ w2 ⟨rfl, N2⟩
  have B2 := N2.blk
  have X2 := N2.ext
  have z2 := N2.size
  refine .p rfl rfl (.as rfl) ?_
  refine .nil (.code (.seq (.seq (.keep [(2, _), (1, _)] ⟨rfl, rfl, trivial⟩ (.region ?_)))))
  refine .p rfl rfl (.fieldAddr rfl rfl rfl rfl) ?_
  refine .p rfl rfl (.load rfl rfl rfl ((B2.ext (S := fun _ => False) (by repeat (first | exact Ext.refl _ | assumption | refine Ext.trans (by assumption) ?_)) (fun x => x)).cell 1)) ?_
  refine .p rfl rfl (.len rfl rfl) ?_
  refine .p rfl rfl (.gt rfl rfl) ?_
  refine .p rfl rfl (.mv rfl) ?_
  refine .caseD 21 rfl (fun c21 => ?_) (fun c21 => ?_)
  · refine .skip rfl rfl ?_
    refine .skip rfl rfl ?_
    refine .skip rfl rfl ?_
    refine .p rfl rfl (.pickT rfl rfl) ?_
    refine .nil (.code (.keep [(25, _), (2, _), (1, _)] ⟨rfl, rfl, rfl, trivial⟩ (.condT rfl (.seq (.keep [] trivial (.region ?_))))))
    refine .p rfl rfl (.as rfl) ?_
    refine .nil (.code ?_)
    refine .ret _ rfl ?_
    first
      | exact ⟨rfl, Ext.then (S := Q) (by repeat (first | exact Ext.refl _ | assumption | refine Ext.trans (by assumption) ?_)) hX (fun k h _ => by have h := hQ k h; omega)⟩
      | exact ⟨rfl, (by repeat (first | exact Ext.refl _ | assumption | refine Ext.trans (by assumption) ?_))⟩
  · refine .p rfl rfl (.mv rfl) ?_
    refine .p rfl rfl (.len rfl rfl) ?_
    refine .p rfl rfl (.gt rfl rfl) ?_
    refine .p rfl rfl (.pickF rfl rfl) ?_
    refine .nil (.code (.keep [(25, _), (2, _), (1, _)] ⟨rfl, rfl, rfl, trivial⟩ ?_))
    refine .condD rfl (fun c25 => ?_) (fun c25 => ?_)
    · refine .seq (.keep [] trivial (.region ?_))
      refine .p rfl rfl (.as rfl) ?_
      refine .nil (.code ?_)
      refine .ret _ rfl ?_
      first
        | exact ⟨rfl, Ext.then (S := Q) (by repeat (first | exact Ext.refl _ | assumption | refine Ext.trans (by assumption) ?_)) hX (fun k h _ => by have h := hQ k h; omega)⟩
        | exact ⟨rfl, (by repeat (first | exact Ext.refl _ | assumption | refine Ext.trans (by assumption) ?_))⟩
    · refine .skip (.code (.seq (.seq (.keep [(2, _), (1, _)] ⟨rfl, rfl, trivial⟩ (.region ?_)))))
      refine .p rfl rfl (.as rfl) ?_
      refine .nil (.code (.block ?_))
      refine .loop (S := Nat) (fun s => [(1, .slice ab b.length kb), (2, .pointer (some ⟨w.heap.size, 0, none⟩)), (5, i64 s)]) (fun s => w2) (fun s => s ≤ x.fs.length ∧ ∀ j (h : j < x.fs.length), j < s → x.fs[j].ps.length ≤ 5000) (fun s => x.fs.length - s) 0 ⟨rfl, rfl, rfl, trivial⟩ rfl ⟨Nat.zero_le _, fun j _ h => absurd h (Nat.not_lt_zero _)⟩ ?_
      rintro i J ⟨hi', hok⟩ again
      refine .seq (.seq (.region ?_))
      refine .p rfl rfl (.mv rfl) ?_
      refine .p rfl rfl (.fieldAddr rfl rfl rfl rfl) ?_
      refine .p rfl rfl (.load rfl rfl rfl ((B2.ext (S := fun _ => False) (by repeat (first | exact Ext.refl _ | assumption | refine Ext.trans (by assumption) ?_)) (fun x => x)).cell 1)) ?_
      refine .p rfl rfl (.len rfl rfl) ?_
      refine .p rfl rfl (.lt rfl rfl) ?_
      refine .nil (.code (.keep [(30, _), (1, _), (2, _), (5, _)] ⟨rfl, rfl, rfl, rfl, trivial⟩ ?_))
      refine .condD rfl (fun c30 => ?_) (fun c30 => ?_)
      · have hi : i < x.fs.length := by omega
        obtain ⟨b1, o1, q1, ue1, e1, _, hcs, hre⟩ := Sl.at hf0 (List.getElem?_eq_getElem hi)
        cases e1
        obtain ⟨fa1, fc1, rfl, hps, hnm, hsz⟩ := tFile.val hre
        refine .skip (.code (.seq (.block (.seq (.keep [(1, _), (2, _), (5, _)] ⟨rfl, rfl, rfl, trivial⟩ (.region ?_))))))
        refine .p rfl rfl (.fieldAddr rfl rfl rfl rfl) ?_
        refine .p rfl rfl (.load rfl rfl rfl ((B2.ext (S := fun _ => False) (by repeat (first | exact Ext.refl _ | assumption | refine Ext.trans (by assumption) ?_)) (fun x => x)).cell 1)) ?_
        refine .p rfl rfl (.mv rfl) ?_
        refine .p rfl rfl (.indexAddr (s := 3) rfl rfl rfl rfl (by omega)) ?_
        refine .p rfl rfl (.fieldAddr rfl rfl rfl rfl) ?_
        refine .p rfl rfl (.load rfl rfl rfl ((hcs.ext (S := fun _ => False) (by repeat (first | exact Ext.refl _ | assumption | refine Ext.trans (by assumption) ?_)) (fun x => x)) 2 _ rfl)) ?_
        refine .p rfl rfl (.len rfl rfl) ?_
        refine .p rfl rfl (.gt rfl rfl) ?_
        refine .p rfl rfl (.mv rfl) ?_
        refine .caseD 41 rfl (fun c41 => ?_) (fun c41 => ?_)
        · refine .skip rfl rfl ?_
          refine .skip rfl rfl ?_
          refine .skip rfl rfl ?_
          refine .skip rfl rfl ?_
          refine .skip rfl rfl ?_
          refine .skip rfl rfl ?_
          refine .skip rfl rfl ?_
          refine .skip rfl rfl ?_
          refine .p rfl rfl (.pickT rfl rfl) ?_
          refine .nil (.code (.keep [(50, _), (1, _), (2, _), (5, _)] ⟨rfl, rfl, rfl, rfl, trivial⟩ (.condT rfl (.seq (.keep [] trivial (.region ?_))))))
          refine .p rfl rfl (.as rfl) ?_
          refine .nil (.code ?_)
          refine .ret _ rfl ?_
          first
            | exact ⟨rfl, Ext.then (S := Q) (by repeat (first | exact Ext.refl _ | assumption | refine Ext.trans (by assumption) ?_)) hX (fun k h _ => by have h := hQ k h; omega)⟩
            | exact ⟨rfl, (by repeat (first | exact Ext.refl _ | assumption | refine Ext.trans (by assumption) ?_))⟩
        · refine .p rfl rfl (.fieldAddr rfl rfl rfl rfl) ?_
          refine .p rfl rfl (.load rfl rfl rfl ((B2.ext (S := fun _ => False) (by repeat (first | exact Ext.refl _ | assumption | refine Ext.trans (by assumption) ?_)) (fun x => x)).cell 1)) ?_
          refine .p rfl rfl (.mv rfl) ?_
          refine .p rfl rfl (.indexAddr (s := 3) rfl rfl rfl rfl (by omega)) ?_
          refine .p rfl rfl (.fieldAddr rfl rfl rfl rfl) ?_
          refine .p rfl rfl (.load rfl rfl rfl ((hcs.ext (S := fun _ => False) (by repeat (first | exact Ext.refl _ | assumption | refine Ext.trans (by assumption) ?_)) (fun x => x)) 0 _ rfl)) ?_
          refine .p rfl rfl (.lenS rfl rfl) ?_
          refine .p rfl rfl (.gt rfl rfl) ?_
          refine .p rfl rfl (.pickF rfl rfl) ?_
          refine .nil (.code (.keep [(50, _), (1, _), (2, _), (5, _)] ⟨rfl, rfl, rfl, rfl, trivial⟩ ?_))
          refine .condD rfl (fun c50 => ?_) (fun c50 => ?_)
          · refine .seq (.keep [] trivial (.region ?_))
            refine .p rfl rfl (.as rfl) ?_
            refine .nil (.code ?_)
            refine .ret _ rfl ?_
            first
              | exact ⟨rfl, Ext.then (S := Q) (by repeat (first | exact Ext.refl _ | assumption | refine Ext.trans (by assumption) ?_)) hX (fun k h _ => by have h := hQ k h; omega)⟩
              | exact ⟨rfl, (by repeat (first | exact Ext.refl _ | assumption | refine Ext.trans (by assumption) ?_))⟩
          · refine .skip (.blk (.code (.keep [(1, _), (2, _), (5, _)] ⟨rfl, rfl, rfl, trivial⟩ (.region ?_))))
            refine .p rfl rfl (.mv rfl) ?_
            refine .p rfl rfl (.add rfl rfl (by omega)) ?_
            refine .p rfl rfl (.as rfl) ?_
            refine .nil ?_
            refine (again (i + 1) ⟨by show i + 1 ≤ _; omega, fun j hj h1 => ?_⟩ (by show _ - (i + 1) < _ - i; omega)).of ⟨rfl, rfl, rfl, trivial⟩
            rcases Nat.lt_or_ge j i with h2 | h2
            · exact hok j hj h2
            · have h1 : j < i + 1 := h1
              obtain rfl : j = i := by omega
              omega
      · obtain rfl : i = x.fs.length := by omega
        have hp : (allP x.fs).length ≤ 1000000 := by
          have := allP_bd x.fs (fun f hf => by obtain ⟨j, hj, rfl⟩ := List.getElem_of_mem hf; exact hok j hj hj)
          omega
        refine .exit rfl (.code (.seq (.keep [(1, _), (2, _)] ⟨rfl, rfl, trivial⟩ (.region ?_))))
        refine .p rfl rfl (.mv rfl) ?_
        refine .v rfl rfl (.appendLo (t := tByte) (eb := 1) rfl (OwnO.nil (B := fun k => w2.heap.size ≤ k)) (fun k hk => hk) rfl (Gr.holds (P := All) (tBytes.ext0 hb (by repeat (first | exact Ext.refl _ | assumption | refine Ext.trans (by assumption) ?_)))) rfl rfl rfl rfl rfl rfl rfl (by simp; omega) (by simp [Lim]; omega) (fun _ h _ => h.elim)) ?_
        rintro v52 w52 ⟨O52, A52⟩
        rw [List.nil_append] at O52
        have X52 : Ext (fun _ => False) w2 w52 := (Ext.refl _).then A52 (fun k h _ => h)
        clear A52
        have z52 := X52.size
        obtain ⟨a52, k52, rfl, _⟩ := OwnO.val O52
        have R52 := OwnO.rep (R := fun k => k < w52.heap.size) O52 (fun k h hl => hl) (fun _ h _ => h.elim)
        refine .p rfl rfl (.as rfl) ?_
        refine .nil (.code (.seq (.keep [(6, _), (1, _), (2, _)] ⟨rfl, rfl, rfl, trivial⟩ (.region ?_))))
        refine .p rfl rfl (.loadA (n := 2) rfl rfl rfl rfl rfl (B2.ext (S := fun _ => False) (by repeat (first | exact Ext.refl _ | assumption | refine Ext.trans (by assumption) ?_)) (fun x => x)).cells) ?_
        refine .call (first := []) (captured := []) rfl rfl rfl rfl (FWrite_fn (x := x) (tDir.ext0 h0 (by repeat (first | exact Ext.refl _ | assumption | refine Ext.trans (by assumption) ?_))) hp (hg.ext0 (by repeat (first | exact Ext.refl _ | assumption | refine Ext.trans (by assumption) ?_)))) ?_
        rintro _ w55 ⟨v55, rfl, G55, X55⟩
        have z55 := X55.size
        obtain ⟨a55, k55, rfl, _⟩ := OwnO.val G55
        refine .p rfl rfl (.mv rfl) ?_
        refine .p rfl rfl (.extract rfl rfl) ?_
        refine .p rfl rfl (.extract rfl rfl) ?_
        refine .p rfl rfl (.as rfl) ?_
        refine .p rfl rfl (.as rfl) ?_
        refine .nil (.code (.seq (.keep [(8, _), (7, _), (6, _), (1, _), (2, _)] ⟨rfl, rfl, rfl, rfl, rfl, trivial⟩ (.region ?_))))
        refine .p rfl rfl (.loadA (n := 2) rfl rfl rfl rfl rfl (B2.ext (S := fun _ => False) (by repeat (first | exact Ext.refl _ | assumption | refine Ext.trans (by assumption) ?_)) (fun x => x)).cells) ?_
        refine .call (first := []) (captured := []) rfl rfl rfl rfl (RefWriteD_fn (x := x) (tDir.ext0 h0 (by repeat (first | exact Ext.refl _ | assumption | refine Ext.trans (by assumption) ?_))) hp) ?_
        rintro _ w60 ⟨v60, rfl, G60, X60⟩
        have z60 := X60.size
        obtain ⟨a60, k60, rfl, _⟩ := OwnO.val G60
        refine .p rfl rfl (.mv rfl) ?_
        refine .p rfl rfl (.extract rfl rfl) ?_
        refine .p rfl rfl (.extract rfl rfl) ?_
        refine .p rfl rfl (.as rfl) ?_
        refine .p rfl rfl (.as rfl) ?_
        refine .nil (.code (.seq (.keep [(10, _), (9, _), (8, _), (7, _), (6, _), (1, _)] ⟨rfl, rfl, rfl, rfl, rfl, rfl, trivial⟩ (.region ?_))))
        refine .p rfl rfl (.mv rfl) ?_
        refine .call (first := []) (captured := []) rfl rfl rfl rfl (FRead_fn (b := b) (tBytes.ext0 (allOf R52) (by repeat (first | exact Ext.refl _ | assumption | refine Ext.trans (by assumption) ?_))) (hg.ext0 (by repeat (first | exact Ext.refl _ | assumption | refine Ext.trans (by assumption) ?_)))) ?_
        rintro _ w65 ⟨v65, Q0, B0, rfl, O65, hQ0, hB0, X65⟩
        have z65 := X65.size
        have O65 := OwnO.mono O65 (Q' := fun k => Q0 k ∧ k < w65.heap.size) (B' := fun k => B0 k) (fun k h hl => ⟨h, hl⟩) (fun k h _ => h)
        obtain ⟨Q, hQe⟩ : ∃ Q : Nat → Prop, Q = fun k => Q0 k ∧ k < w65.heap.size := ⟨_, rfl⟩
        have hQ : ∀ k, Q k → w60.heap.size ≤ k ∧ k < w65.heap.size := fun k h => by rw [hQe] at h; exact ⟨hQ0 k h.1, h.2⟩
        rw [← hQe] at O65
        have hWF := WrF.of O65 (fun k h1 h2 => by rw [hQe] at h2; exact (hB0 k h1).2 h2.1)
        obtain ⟨aF, kF, rfl, hkF⟩ := OwnO.val O65
        have R65 := tDir.own (x := (readD b).1) (P := fun k => k < w65.heap.size ∨ w65.heap.size ≤ k) O65 (fun k _ => by omega) (fun k _ => by omega) (readD_bd b)
        refine .p rfl rfl (.mv rfl) ?_
        refine .p rfl rfl (.extract rfl rfl) ?_
        refine .p rfl rfl (.extract rfl rfl) ?_
        refine .v rfl rfl (.alloc rfl rfl) ?_
        rintro _ wn11 ⟨rfl, N11⟩
        refine .s rfl (.storeAll (n := 2) rfl rfl rfl rfl rfl N11.blk rfl) ?_
        intro w11 P11
        have Y11 := N11.ext.then P11.ext (by rintro k rfl _; exact Nat.le_refl _)
        have zy11 := Y11.size
        have B11 := P11.blk
        clear P11 N11
        have lb11 := B11.lt
        refine .p rfl rfl (.as rfl) ?_
        refine .nil (.code (.seq (.keep [(12, _), (11, _), (10, _), (9, _), (8, _), (7, _), (6, _), (1, _)] ⟨rfl, rfl, rfl, rfl, rfl, rfl, rfl, rfl, trivial⟩ (.region ?_))))
        refine .p rfl rfl (.mv rfl) ?_
        refine .call (first := []) (captured := []) rfl rfl rfl rfl (RefReadD_fn (b := b) (tBytes.ext0 hb (by repeat (first | exact Ext.refl _ | assumption | refine Ext.trans (by assumption) ?_)))) ?_
        rintro _ w70 ⟨u70, rfl, R70, X70⟩
        have z70 := X70.size
        obtain ⟨a70, k70, rfl, _, _⟩ := tDir.val R70
        refine .p rfl rfl (.mv rfl) ?_
        refine .p rfl rfl (.extract rfl rfl) ?_
        refine .p rfl rfl (.extract rfl rfl) ?_
        refine .v rfl rfl (.alloc rfl rfl) ?_
        rintro _ wn13 ⟨rfl, N13⟩
        refine .s rfl (.storeAll (n := 2) rfl rfl rfl rfl rfl N13.blk rfl) ?_
        intro w13 P13
        have Y13 := N13.ext.then P13.ext (by rintro k rfl _; exact Nat.le_refl _)
        have zy13 := Y13.size
        have B13 := P13.blk
        clear P13 N13
        have lb13 := B13.lt
        refine .p rfl rfl (.as rfl) ?_
        refine .nil (.code (.seq (.seq (.keep [(14, _), (13, _), (12, _), (11, _), (10, _), (9, _), (8, _), (7, _), (6, _), (1, _)] ⟨rfl, rfl, rfl, rfl, rfl, rfl, rfl, rfl, rfl, rfl, trivial⟩ (.region ?_)))))
        refine .p rfl rfl (.mv rfl) ?_
        refine .p rfl rfl (.bytesStr rfl (Gr.rep (Gr.ext0 G55 (by repeat (first | exact Ext.refl _ | assumption | refine Ext.trans (by assumption) ?_)))) rfl rfl rfl) ?_
        refine .p rfl rfl (.mv rfl) ?_
        refine .p rfl rfl (.bytesStr rfl (Gr.rep (Gr.ext0 G60 (by repeat (first | exact Ext.refl _ | assumption | refine Ext.trans (by assumption) ?_)))) rfl rfl rfl) ?_
        refine .p rfl rfl (.no (.neS rfl rfl) (fun h => h rfl)) ?_
        refine .p rfl rfl (.mv rfl) ?_
        refine .p rfl rfl (.mv rfl) ?_
        refine .p rfl rfl (.mv rfl) ?_
        refine .p rfl rfl (.no (.ne rfl rfl) (fun h => h rfl)) ?_
        refine .p rfl rfl (.pickF rfl rfl) ?_
        refine .p rfl rfl (.mv rfl) ?_
        refine .p rfl rfl (.mv rfl) ?_
        refine .p rfl rfl (.mv rfl) ?_
        refine .p rfl rfl (.no (.ne rfl rfl) (fun h => h rfl)) ?_
        refine .p rfl rfl (.pickF rfl rfl) ?_
        refine .p rfl rfl (.mv rfl) ?_
        refine .p rfl rfl (.loadA (n := 2) rfl rfl rfl rfl rfl (B11.ext (S := fun _ => False) (by repeat (first | exact Ext.refl _ | assumption | refine Ext.trans (by assumption) ?_)) (fun x => x)).cells) ?_
        refine .p rfl rfl (.loadA (n := 2) rfl rfl rfl rfl rfl (B13.ext (S := fun _ => False) (by repeat (first | exact Ext.refl _ | assumption | refine Ext.trans (by assumption) ?_)) (fun x => x)).cells) ?_
        refine .call (first := []) (captured := []) rfl rfl rfl rfl (refSameDirT_fn (x := (readD b).1) (allOf (tDir.ext0 R65 (by repeat (first | exact Ext.refl _ | assumption | refine Ext.trans (by assumption) ?_)))) (allOf (tDir.ext0 R70 (by repeat (first | exact Ext.refl _ | assumption | refine Ext.trans (by assumption) ?_))))) ?_
        rintro _ w91 ⟨rfl, X91⟩
        have z91 := X91.size
        refine .p rfl rfl (.not rfl) ?_
        refine .p rfl rfl (.pickF rfl rfl) ?_
        refine .nil (.code (.keep [(93, _), (11, _), (6, _), (1, _)] ⟨rfl, rfl, rfl, rfl, trivial⟩ (.condF rfl (.skip (.code (.seq (.seq (.keep [(11, _), (6, _), (1, _)] ⟨rfl, rfl, rfl, trivial⟩ (.region ?_)))))))))
        refine .p rfl rfl (.as rfl) ?_
        refine .nil (.code (.block ?_))
        refine .loop (S := Nat × World) (fun s => [(1, .slice ab b.length kb), (6, .slice a52 b.length k52), (11, .pointer (some ⟨w65.heap.size, 0, none⟩)), (15, i64 s.1)]) (fun s => s.2) (fun s => s.1 ≤ (readD b).1.fs.length ∧ WrF s.2 Q (.slice aF (readD b).1.fs.length kF) (readD b).1.fs ∧ Ext Q w91 s.2) (fun s => (readD b).1.fs.length - s.1) (0, w91) ⟨rfl, rfl, rfl, rfl, trivial⟩ rfl ⟨Nat.zero_le _, hWF.ext0 (by repeat (first | exact Ext.refl _ | assumption | refine Ext.trans (by assumption) ?_)), .refl _⟩ ?_
        rintro ⟨i, wi⟩ J ⟨hi', hWi, hX⟩ again
        simp only at hi' hWi hX
        have zi := hX.size
        change G _ [(1, .slice ab b.length kb), (6, .slice a52 b.length k52), (11, .pointer (some ⟨w65.heap.size, 0, none⟩)), (15, i64 i)] _ _ wi
        refine .seq (.seq (.region ?_))
        refine .p rfl rfl (.mv rfl) ?_
        refine .p rfl rfl (.fieldAddr rfl rfl rfl rfl) ?_
        refine .p rfl rfl (.load rfl rfl rfl ((((B11.ext (S := fun _ => False) (by repeat (first | exact Ext.refl _ | assumption | refine Ext.trans (by assumption) ?_)) (fun x => x)).ext hX (by show ¬ Q _; exact fun h => by have := hQ _ h; omega))).cell 1)) ?_
        refine .p rfl rfl (.len rfl rfl) ?_
        refine .p rfl rfl (.lt rfl rfl) ?_
        refine .nil (.code (.keep [(98, _), (1, _), (6, _), (11, _), (15, _)] ⟨rfl, rfl, rfl, rfl, rfl, trivial⟩ ?_))
        refine .condD rfl (fun c98 => ?_) (fun c98 => ?_)
        · have hi : i < (readD b).1.fs.length := by omega
          obtain ⟨_, _, _, hRF, _⟩ := tDir.val R65
          have hlF := Sl.lim hRF
          obtain ⟨_, _, _, _, _, _, _, hreF⟩ := Sl.at hRF (List.getElem?_eq_getElem hi)
          obtain ⟨_, _, _, hpsF, _⟩ := tFile.val hreF
          have hlP := Sl.lim hpsF
          simp only [Lim] at hlF hlP
          clear hpsF hreF hRF
          refine .skip (.code (.seq (.block (.seq (.keep [(1, _), (6, _), (11, _), (15, _)] ⟨rfl, rfl, rfl, rfl, trivial⟩ (.region ?_))))))
          refine .p rfl rfl (.as rfl) ?_
          refine .nil (.code (.block ?_))
          refine .loop (S := Nat × World) (fun s => [(1, .slice ab b.length kb), (6, .slice a52 b.length k52), (11, .pointer (some ⟨w65.heap.size, 0, none⟩)), (15, i64 (i : Nat)), (16, i64 s.1)]) (fun s => s.2) (fun s => s.1 ≤ (readD b).1.fs[i].ps.length ∧ WrF s.2 Q (.slice aF (readD b).1.fs.length kF) (readD b).1.fs ∧ Ext Q w91 s.2) (fun s => (readD b).1.fs[i].ps.length - s.1) (0, wi) ⟨rfl, rfl, rfl, rfl, rfl, trivial⟩ rfl ⟨Nat.zero_le _, hWi, hX⟩ ?_
          rintro ⟨j, wj⟩ J2 ⟨hj', hWj, hY⟩ again2
          simp only at hj' hWj hY
          have zj := hY.size
          change G _ [(1, .slice ab b.length kb), (6, .slice a52 b.length k52), (11, .pointer (some ⟨w65.heap.size, 0, none⟩)), (15, i64 (i : Nat)), (16, i64 j)] _ _ wj
          refine .seq (.seq (.region ?_))
          refine .p rfl rfl (.mv rfl) ?_
          refine .p rfl rfl (.fieldAddr rfl rfl rfl rfl) ?_
          obtain ⟨bF, eF, xF, kX, hce, hWS⟩ := hWj.at hi
          cases eF
          refine .p rfl rfl (.load rfl rfl rfl ((((B11.ext (S := fun _ => False) (by repeat (first | exact Ext.refl _ | assumption | refine Ext.trans (by assumption) ?_)) (fun x => x)).ext hY (by show ¬ Q _; exact fun h => by have := hQ _ h; omega))).cell 1)) ?_
          refine .p rfl rfl (.mv rfl) ?_
          refine .p rfl rfl (.indexAddr (s := 3) rfl rfl rfl rfl (by omega)) ?_
          refine .p rfl rfl (.fieldAddr rfl rfl rfl rfl) ?_
          refine .p rfl rfl (.load rfl rfl rfl (by have := hce; simpa using this)) ?_
          refine .p rfl rfl (.len rfl rfl) ?_
          refine .p rfl rfl (.lt rfl rfl) ?_
          refine .nil (.code (.keep [(109, _), (1, _), (6, _), (11, _), (15, _), (16, _)] ⟨rfl, rfl, rfl, rfl, rfl, rfl, trivial⟩ ?_))
          refine .condD rfl (fun c109 => ?_) (fun c109 => ?_)
          · have hj : j < (readD b).1.fs[i].ps.length := by omega
            obtain ⟨p, dsp, rfl, hQp, hBp, hpl⟩ := hWS.blk hj
            refine .skip (.code (.seq (.block (.keep [(1, _), (6, _), (11, _), (15, _), (16, _)] ⟨rfl, rfl, rfl, rfl, rfl, trivial⟩ (.region ?_)))))
            refine .p rfl rfl (.fieldAddr rfl rfl rfl rfl) ?_
            refine .p rfl rfl (.load rfl rfl rfl ((((B11.ext (S := fun _ => False) (by repeat (first | exact Ext.refl _ | assumption | refine Ext.trans (by assumption) ?_)) (fun x => x)).ext hY (by show ¬ Q _; exact fun h => by have := hQ _ h; omega))).cell 1)) ?_
            refine .p rfl rfl (.mv rfl) ?_
            refine .p rfl rfl (.indexAddr (s := 3) rfl rfl rfl rfl (by omega)) ?_
            refine .p rfl rfl (.fieldAddr rfl rfl rfl rfl) ?_
            refine .p rfl rfl (.load rfl rfl rfl (by have := hce; simpa using this)) ?_
            refine .p rfl rfl (.mv rfl) ?_
            refine .p rfl rfl (.build (cs := [i64 0, i64 0]) rfl (fun _ => by kernel_rfl)) ?_
            refine .p rfl rfl (.indexAddr (s := 2) rfl rfl rfl rfl (by omega)) ?_
            refine .s rfl (.storeA (us := [i64 0, i64 0]) (n := 2) rfl rfl rfl rfl rfl hBp (by simp only [List.length_cons, List.length_nil]; omega)) ?_
            intro wp Pp
            refine .nil (.blk (.code (.keep [(1, _), (6, _), (11, _), (15, _), (16, _)] ⟨rfl, rfl, rfl, rfl, rfl, trivial⟩ (.region ?_))))
            refine .p rfl rfl (.mv rfl) ?_
            refine .p rfl rfl (.add rfl rfl (by omega)) ?_
            refine .p rfl rfl (.as rfl) ?_
            refine .nil ?_
            exact (again2 (j + 1, wp) ⟨by show j + 1 ≤ _; omega, hWj.put hQp hBp Pp (by simp only [List.length_append, List.length_take, List.length_drop, List.length_cons, List.length_nil]; omega), hY.trans (Pp.ext.mono (by rintro k _ rfl; exact hQp))⟩ (by show _ - (j + 1) < _ - j; omega)).of ⟨rfl, rfl, rfl, rfl, rfl, trivial⟩
          · refine .exit rfl (.blk (.code (.keep [(1, _), (6, _), (11, _), (15, _)] ⟨rfl, rfl, rfl, rfl, trivial⟩ (.region ?_))))
            refine .p rfl rfl (.mv rfl) ?_
            refine .p rfl rfl (.add rfl rfl (by omega)) ?_
            refine .p rfl rfl (.as rfl) ?_
            refine .nil ?_
            exact (again (i + 1, wj) ⟨by show i + 1 ≤ _; omega, hWj, hY⟩ (by show _ - (i + 1) < _ - i; omega)).of ⟨rfl, rfl, rfl, rfl, trivial⟩
        · refine .exit rfl (.code (.seq (.keep [(1, _), (6, _)] ⟨rfl, rfl, trivial⟩ (.region ?_))))
          refine .p rfl rfl (.mv rfl) ?_
          refine .p rfl rfl (.bytesStr rfl (tBytes.ext (tBytes.ext0 R52 (by repeat (first | exact Ext.refl _ | assumption | refine Ext.trans (by assumption) ?_))) hX (fun k hk _ e => by have hk : k < w52.heap.size := hk; have := hQ k e; omega)) rfl rfl rfl) ?_
          refine .p rfl rfl (.mv rfl) ?_
          refine .p rfl rfl (.bytesStr rfl (tBytes.ext (tBytes.ext0 Rb (by repeat (first | exact Ext.refl _ | assumption | refine Ext.trans (by assumption) ?_))) hX (fun k hk _ e => by have hk : k < w.heap.size := hk; have := hQ k e; omega)) rfl rfl rfl) ?_
          refine .p rfl rfl (.yes (.eqS rfl rfl) (rfl)) ?_
          refine .p rfl rfl (.as rfl) ?_
          refine .nil (.code ?_)
          refine .ret _ rfl ?_
          first
            | exact ⟨rfl, Ext.then (S := Q) (by repeat (first | exact Ext.refl _ | assumption | refine Ext.trans (by assumption) ?_)) hX (fun k h _ => by have h := hQ k h; omega)⟩
            | exact ⟨rfl, (by repeat (first | exact Ext.refl _ | assumption | refine Ext.trans (by assumption) ?_))⟩
end Go.Proofs.YtpfehnopghffjaaGreatDoor
