
/-
  Package disk: a disk in memory of its own; writes made sure.
-/
import Derived.Test.YtapdacjpmmjlhaaDisk1
import Derived.Test.YtapdacjpmmjlhaaHalf
set_option linter.unusedVariables false
set_option linter.unusedSimpArgs false
set_option maxRecDepth 20000
namespace Go.Proofs.Ytapdacjpmmjlhaa
open Go disk
theorem twin_fn {w : World} {v : Value} {d : Disk} (h : tDisk.rep All w v d) (hwl : d.waits.length ≤ 4096) : Fn Try.prog 56 [v] w (fun r w2 => OwnD w2 r d (fun k => w.heap.size ≤ k) ∧ Ext (fun _ => False) w w2) := by
  obtain ⟨u, u', rfl, hd, hw, hc1, hc2⟩ := tDisk.val h
  obtain ⟨a, cap, rfl, hcap⟩ := Sl.val hd
  have hlim := Sl.lim hd
  obtain ⟨aw, capw, rfl, hcapw⟩ := Sl.val hw
  have hlimL := hlim
  simp only [Lim] at hlim
  have hwR := (Sl tPut).mono hw (P' := fun k => k < w.heap.size) (fun k _ hk => hk)
  refine Fn.enter (fun w => Try.call56 _ w) Try.func56 rfl ?_
  refine .seq (.region ?_)
  refine .v rfl rfl (.box rfl) ?_
  rintro _ w1 ⟨rfl, N1⟩
  refine .v rfl rfl (.alloc rfl rfl) ?_
  rintro _ w2 ⟨rfl, N2⟩
  have B1 := N1.blk.ext N2.ext (fun x => x)
  have z1 := N1.size
  have z2 := N2.size
  refine .nil (.code (.seq (.keep [(2, _), (1, _)] ⟨rfl, rfl, trivial⟩ ?_)))
  refine .meet (S := Nat × Nat × Value × World) (fun s => [(3, .pointer (some ⟨s.2.1, 0, none⟩)), (1, .pointer (some ⟨w.heap.size, 0, none⟩)), (2, .pointer (some ⟨w1.heap.size, 0, none⟩))]) (fun s => s.2.2.2) (fun s => Blk s.2.2.2 s.2.1 36 [i64 d.count, .slice (some ⟨s.1, 0, none⟩) d.data.length d.data.length, s.2.2.1] ∧ Blk s.2.2.2 s.1 5 (List.replicate d.data.length (u8 0)) ∧ OwnO tPut (fun k => k < w.heap.size) 62 s.2.2.2 s.2.2.1 d.waits (fun k => w2.heap.size ≤ k ∧ k < s.2.2.2.heap.size ∧ k ≠ s.2.1 ∧ k ≠ s.1) ∧ Ext (fun _ => False) w2 s.2.2.2 ∧ s.2.1 ≠ s.1 ∧ w2.heap.size ≤ s.2.1 ∧ w2.heap.size ≤ s.1 ∧ s.2.1 < s.2.2.2.heap.size ∧ s.1 < s.2.2.2.heap.size) ?_ ?_
  · rintro ⟨bd, p, sw, wm⟩ ⟨hBp, hBd, hO, hX, hne, hp, hbd, hpl, hbl⟩
    simp only at hBp hBd hO hX hne hp hbd hpl hbl
    obtain ⟨asl, caps, rfl, hcaps⟩ := hO.val
    have zX : w2.heap.size ≤ wm.heap.size := hX.size
    refine .code (.seq (.region ?_))
    refine .p rfl rfl (.fieldAddr rfl rfl rfl rfl) ?_
    refine .p rfl rfl (.load rfl rfl rfl (hBp.cell 1)) ?_
    refine .p rfl rfl (.fieldAddr rfl rfl rfl rfl) ?_
    refine .p rfl rfl (.load rfl rfl rfl ((B1.ext hX (fun x => x)).cell 1)) ?_
    refine .v rfl rfl (.copyB rfl hBd rfl (tBytes.ext0 hd (N1.ext.trans (N2.ext.trans hX))) rfl rfl (by simp)) ?_
    rintro _ w19 ⟨rfl, P19⟩
    have B19 : Blk w19 bd 5 (d.data.map u8) := by have := P19.blk; simpa using this
    have Bp19 := hBp.ext P19.ext hne
    have H19 := HalfO.first (Q1 := fun k => wm.heap.size ≤ k) (hO.ext P19.ext (fun k hk _ => hk.2.2.2) (fun k hk _ he => by have he : k = bd := he; omega))
    have hs19 : w19.heap.size = wm.heap.size := P19.size
    have X19 := hX.then P19.ext (by rintro k rfl _; exact hbd)
    refine .nil (.code (.seq (.seq (.keep [(3, _), (2, _)] ⟨rfl, rfl, trivial⟩ (.region ?_)))))
    refine .p rfl rfl (.fieldAddr rfl rfl rfl rfl) ?_
    refine .p rfl rfl (.load rfl rfl rfl (Bp19.cell 2)) ?_
    refine .p rfl rfl (.len rfl rfl) ?_
    refine .p rfl rfl (.mv rfl) ?_
    refine .nil (.code (.block (.keep [(23, _), (22, _), (3, _), (2, _)] ⟨rfl, rfl, rfl, rfl, trivial⟩ ?_)))
    refine .loop (S := Nat × World) (fun s => [(2, .pointer (some ⟨w1.heap.size, 0, none⟩)), (3, .pointer (some ⟨p, 0, none⟩)), (22, i64 d.waits.length), (23, i64 s.1)]) (fun s => s.2) (fun s => s.1 ≤ d.waits.length ∧ Blk s.2 p 36 [i64 d.count, .slice (some ⟨bd, 0, none⟩) d.data.length d.data.length, .slice asl d.waits.length caps] ∧ Blk s.2 bd 5 (d.data.map u8) ∧ HalfO s.2 (.slice asl d.waits.length caps) 62 d.waits (fun k => k < w.heap.size) (fun k => wm.heap.size ≤ k) (fun k => w2.heap.size ≤ k ∧ k < wm.heap.size ∧ k ≠ p ∧ k ≠ bd) s.1 ∧ Ext (fun _ => False) w2 s.2 ∧ wm.heap.size ≤ s.2.heap.size) (fun s => d.waits.length - s.1) (0, w19) ⟨rfl, rfl, rfl, rfl, trivial⟩ rfl ⟨Nat.zero_le _, Bp19, B19, H19, X19, by show wm.heap.size ≤ w19.heap.size; omega⟩ ?_
    rintro ⟨i, wi⟩ J ⟨hi', hBi, hDi, hHi, hXi, hzi⟩ again
    simp only at hi' hBi hDi hHi hXi hzi
    refine .seq (.region ?_)
    refine .p rfl rfl (.lt rfl rfl) ?_
    refine .nil (.code (.seq ?_))
    refine .condD rfl (fun c24 => ?_) (fun c24 => ?_)
    · have hil : i < d.waits.length := by omega
      obtain ⟨hnil, _⟩ | ⟨b, cap', hv, hcap', hb, hlw, hH⟩ := hHi
      · rw [hnil] at hil; exact absurd hil (Nat.not_lt_zero _)
      cases hv
      obtain ⟨ud, hud, hce⟩ := hH.elem hil
      refine .skip (.code (.seq (.block (.seq (.keep [(2, _), (3, _), (22, _), (23, _)] ⟨rfl, rfl, rfl, rfl, trivial⟩ (.region ?_))))))
      refine .p rfl rfl (.mv rfl) ?_
      refine .p rfl rfl (.as rfl) ?_
      refine .nil (.code (.keep [(4, _), (2, _), (3, _), (22, _), (23, _)] ⟨rfl, rfl, rfl, rfl, rfl, trivial⟩ (.mix ((· = b)) [8, 9, 12] (by kernel_rfl) (by kernel_rfl) (by kernel_rfl) ?_)))
      refine .p rfl rfl rfl (fun wx hx => .fieldAddr rfl rfl rfl rfl) ?_
      refine .p rfl rfl rfl (fun wx hx => .load rfl rfl rfl ((hBi.ext hx (fun he => hb.2.2.1 he.symm)).cell 2)) ?_
      refine .p rfl rfl rfl (fun wx hx => .mv rfl) ?_
      refine .p rfl rfl rfl (fun wx hx => .fieldAddr rfl rfl rfl rfl) ?_
      refine .p rfl rfl rfl (fun wx hx => .load rfl rfl rfl ((hBi.ext hx (fun he => hb.2.2.1 he.symm)).cell 2)) ?_
      refine .p rfl rfl rfl (fun wx hx => .mv rfl) ?_
      refine .p rfl rfl rfl (fun wx hx => .cast (.indexAddr (s := 2) rfl rfl rfl rfl (by omega)) (show _ = Value.pointer (some ⟨b, i * 2, none⟩) by simp)) ?_
      refine .p rfl rfl rfl (fun wx hx => .fieldAddr rfl rfl rfl rfl) ?_
      refine .v rfl rfl rfl (.ofEv (.load rfl rfl rfl hce)) (by rintro _ _ ⟨rfl, rfl⟩; exact .refl _) ?_
      rintro _ wz ⟨rfl, hz⟩
      subst wz
      refine .call (first := []) (captured := []) rfl rfl rfl rfl rfl (bytesClone_fn (tBytes.all hud)) (by rintro _ _ ⟨_, _, _, hx⟩; exact hx.mono (fun _ _ h => h.elim)) ?_
      rintro r35 w35 ⟨b35, O35, hb35, X35⟩
      obtain ⟨a35, cap35, rfl, hc35⟩ := O35.val
      have z35 : wi.heap.size ≤ w35.heap.size := X35.size
      have hb35 : wi.heap.size ≤ b35 := hb35
      obtain ⟨cs, hcsB, hcsl, hput⟩ := HalfAt.put hH hil X35 (r := .slice a35 d.waits[i].data.length cap35) (OwnB.of O35 (by show wm.heap.size ≤ b35; omega)) (fun k hk he => by omega) (fun k hk he => by omega)
      refine .p rfl rfl rfl (fun wx hx => .cast (.indexAddr (s := 2) rfl rfl rfl rfl (by omega)) (show _ = Value.pointer (some ⟨b, i * 2, none⟩) by simp)) ?_
      refine .p rfl rfl rfl (fun wx hx => .fieldAddr rfl rfl rfl rfl) ?_
      refine .s rfl rfl (.store rfl rfl rfl rfl rfl hcsB hcsl) (by intro wz hP; exact (X35.mono (fun _ _ h => h.elim)).trans hP.ext) ?_
      intro w36 P36
      have H36 := hput w36 P36
      have z36 := P36.size
      have X36 := (hXi.trans X35).then P36.ext (by rintro k rfl _; exact hb.1)
      refine .nil (.blk (.code (.keep [(2, _), (3, _), (22, _), (23, _)] ⟨rfl, rfl, rfl, rfl, trivial⟩ (.region ?_))))
      refine .p rfl rfl (.add rfl rfl (by omega)) ?_
      refine .p rfl rfl (.mv rfl) ?_
      refine .nil ?_
      exact (again (i + 1, w36) ⟨by show i + 1 ≤ _; omega, (hBi.ext X35 (fun x => x)).ext P36.ext (fun he => hb.2.2.1 he.symm), (hDi.ext X35 (fun x => x)).ext P36.ext (fun he => hb.2.2.2 he.symm), .inr ⟨b, caps, rfl, hcaps, hb, hlw, H36⟩, X36, by show wm.heap.size ≤ w36.heap.size; omega⟩ (by show _ - (i + 1) < _ - i; omega)).of ⟨rfl, rfl, rfl, rfl, trivial⟩
    · obtain rfl : i = d.waits.length := by omega
      have hL := hHi.last
      have zi := hXi.size
      refine .exit rfl (.code (.seq (.keep [(2, _), (3, _)] ⟨rfl, rfl, trivial⟩ (.region ?_))))
      refine .p rfl rfl (.loadA (n := 3) rfl rfl rfl rfl rfl hBi.cells) ?_
      refine .s rfl (.storeAll (n := 3) rfl rfl rfl rfl rfl (N2.blk.ext hXi (fun x => x)) rfl) ?_
      intro w40 P40
      refine .nil (.code ?_)
      refine .retR (.cell (n := 3) rfl rfl rfl rfl rfl (P40.blk.cells) .nil) ?_
      have hs40 : w40.heap.size = wi.heap.size := P40.size
      have D40 : Own tByte (fun _ => False) 5 w40 (.slice (some ⟨bd, 0, none⟩) d.data.length d.data.length) d.data bd := Own.ofBlk (sp := []) (by rw [List.append_nil]; exact hDi.ext P40.ext (by show ¬ bd = w1.heap.size; omega)) hlimL rfl rfl
      have L40 := (hL.mono (Q' := fun k => wm.heap.size ≤ k) (fun _ h _ => h) (fun _ h _ => h)).ext P40.ext (fun k hk _ he => by have hk : w2.heap.size ≤ k := hk.1; have he : k = w1.heap.size := he; omega) (fun k hk _ he => by have hk : wm.heap.size ≤ k := hk; have he : k = w1.heap.size := he; omega)
      refine ⟨?_, (N1.ext.trans (N2.ext.trans hXi)).then P40.ext (by rintro k rfl _; show w.heap.size ≤ w1.heap.size; omega)⟩
      rcases L40 with ⟨h1, h2⟩ | ⟨b, h1, h2, h3⟩
      · exact ⟨_, _, bd, p, fun _ => False, rfl, ⟨hc1, hc2⟩, D40, by rw [h1] at *; rw [h2]; exact Own.nil, ⟨by omega, by omega, fun he => hne he.symm, by show w.heap.size ≤ bd; omega, by show w.heap.size ≤ p; omega⟩, fun k h _ => h.elim⟩
      · have h1' : w2.heap.size ≤ b ∧ b < wm.heap.size ∧ b ≠ p ∧ b ≠ bd := h1
        exact ⟨_, _, bd, b, fun k => wm.heap.size ≤ k, rfl, ⟨hc1, hc2⟩, D40, h3, ⟨by omega, h2, fun he => h1.2.2.2 he.symm, by show w.heap.size ≤ bd; omega, by show w.heap.size ≤ b; omega⟩, fun k hk _ => by have hk : wm.heap.size ≤ k := hk; exact ⟨by show w.heap.size ≤ k; omega, by omega, by omega⟩⟩
  · intro meet
    refine .tree (fun k => w2.heap.size ≤ k) [5, 8, 10, 11] (.op 0 (.op 1 (.op 2 (.op 3 (.op 4 (.op 6 (.op 7 (.alt 5 (.op 5 (.alt 8 (.op 8 (.op 9 (.alt 10 (.op 10 (.alt 11 (.op 11 (.nil)) (.stop))) (.stop)))) (.alt 10 (.op 10 (.alt 8 (.op 8 (.op 9 (.alt 11 (.op 11 (.nil)) (.stop)))) (.stop))) (.stop)))) (.alt 8 (.op 8 (.alt 5 (.op 5 (.op 9 (.alt 10 (.op 10 (.alt 11 (.op 11 (.nil)) (.stop))) (.stop)))) (.alt 10 (.op 10 (.alt 5 (.op 5 (.op 9 (.alt 11 (.op 11 (.nil)) (.stop)))) (.stop))) (.stop)))) (.alt 10 (.op 10 (.alt 5 (.op 5 (.alt 8 (.op 8 (.op 9 (.alt 11 (.op 11 (.nil)) (.stop)))) (.stop))) (.alt 8 (.op 8 (.alt 5 (.op 5 (.op 9 (.alt 11 (.op 11 (.nil)) (.stop)))) (.stop))) (.stop)))) (.stop))))))))))) (by kernel_rfl) (by kernel_rfl) (by kernel_rfl) ?_
    refine .p rfl rfl rfl rfl (fun wx hx => .fieldAddr rfl rfl rfl rfl) ?_
    refine .p rfl rfl rfl rfl (fun wx hx => .load rfl rfl rfl ((B1.ext hx (by show ¬ (w2.heap.size ≤ w.heap.size); omega)).cell 0)) ?_
    refine .p rfl rfl rfl rfl (fun wx hx => .fieldAddr rfl rfl rfl rfl) ?_
    refine .p rfl rfl rfl rfl (fun wx hx => .load rfl rfl rfl ((B1.ext hx (by show ¬ (w2.heap.size ≤ w.heap.size); omega)).cell 1)) ?_
    refine .p rfl rfl rfl rfl (fun wx hx => .len rfl rfl) ?_
    refine .p rfl rfl rfl rfl (fun wx hx => .fieldAddr rfl rfl rfl rfl) ?_
    refine .p rfl rfl rfl rfl (fun wx hx => .load rfl rfl rfl ((B1.ext hx (by show ¬ (w2.heap.size ≤ w.heap.size); omega)).cell 2)) ?_
    refine .alt ?_ ?_
    · refine .v rfl rfl rfl rfl (.make (eb := 1) rfl rfl rfl rfl rfl rfl rfl rfl (by omega)) (by rintro _ _ ⟨_, hN⟩; exact ((Ext.refl _)).trans hN.ext0) ?_
      rintro _ w10 ⟨rfl, N10⟩
      have z10 := N10.size
      have hX10 : Ext (fun k => w2.heap.size ≤ k) _ _ := (Ext.refl _).trans (N10.ext0)
      refine .alt ?_ ?_
      · refine .call (first := []) (captured := []) rfl rfl rfl rfl rfl rfl (putsClone_fn (R := fun k => k < w.heap.size) ((Sl tPut).ext hwR ((N1.ext.trans N2.ext).mono (fun _ _ h => h.elim) |>.trans hX10) (by intro k hk _ he; have he : w2.heap.size ≤ k := he; omega)) hwl) (by rintro _ _ ⟨_, hx⟩; exact hX10.trans (hx.mono (fun _ _ h => h.elim))) ?_
        rintro r13 w13 ⟨O13, X13⟩
        have z13 := X13.size
        obtain ⟨a13, cap13, rfl, hc13⟩ := O13.val
        have hX13 : Ext (fun k => w2.heap.size ≤ k) _ _ := hX10.trans (X13.mono (fun _ _ h => h.elim))
        refine .p rfl rfl rfl rfl (fun wx hx => .build (cs := [i64 d.count, .slice (some ⟨w2.heap.size, 0, none⟩) d.data.length d.data.length, .slice a13 d.waits.length cap13]) rfl (fun _ => by kernel_rfl)) ?_
        refine .alt ?_ ?_
        · refine .v rfl rfl rfl rfl (.alloc rfl rfl) (by rintro _ _ ⟨_, hN⟩; exact hX13.trans hN.ext0) ?_
          rintro _ w3 ⟨rfl, N3⟩
          have z3 := N3.size
          have hX3 : Ext (fun k => w2.heap.size ≤ k) _ _ := hX13.trans (N3.ext0)
          refine .alt ?_ ?_
          · refine .s rfl rfl rfl (.storeAll (n := 3) (E := 36) (cs := [i64 0, .slice none 0 0, .slice none 0 0]) rfl rfl rfl rfl rfl (by first | exact N3.blk | exact N3.blk.ext N10.ext (fun x => x) | exact N3.blk.ext X13 (fun x => x) | exact (N3.blk.ext N10.ext (fun x => x)).ext X13 (fun x => x) | exact (N3.blk.ext X13 (fun x => x)).ext N10.ext (fun x => x)) rfl) (by intro wz hP; exact hX3.trans (hP.ext.mono (by rintro k _ rfl; show w2.heap.size ≤ _; omega))) ?_
            intro w11 P11
            have hXs11 : Ext (fun k => w2.heap.size ≤ k) _ _ := hX3.trans (P11.ext.mono (by rintro k _ rfl; show w2.heap.size ≤ _; omega))
            refine .nil ?_
            have hz11 := P11.size
            exact (meet (w2.heap.size, w13.heap.size, _, w11) ⟨P11.blk, (((N10.blk).ext X13 (fun x => x)).ext N3.ext (fun x => x)).ext P11.ext (by show ¬ w2.heap.size = w13.heap.size; omega), (((O13.mono (fun k hk _ => hk) (fun k hk hlt => (⟨hk, hlt⟩ : w10.heap.size ≤ k ∧ k < w13.heap.size))).ext0 N3.ext).ext P11.ext (by rintro k ⟨h1, h2⟩ _ he; have he : k = w13.heap.size := he; omega) (by rintro k ⟨h1, h2⟩ _ he; have he : k = w13.heap.size := he; omega)).mono (fun k hk _ => hk.1) (by rintro k ⟨h1, h2⟩ h3; exact ⟨by show w2.heap.size ≤ k; omega, by show k < w11.heap.size; omega, by show k ≠ w13.heap.size; omega, by show k ≠ w2.heap.size; omega⟩), (Ext.refl w2).then hXs11 (fun k hk _ => hk), by show w13.heap.size ≠ w2.heap.size; omega, by show w2.heap.size ≤ w13.heap.size; omega, by show w2.heap.size ≤ w2.heap.size; omega, by show w13.heap.size < w11.heap.size; omega, by show w2.heap.size < w11.heap.size; omega⟩).of ⟨rfl, rfl, rfl, trivial⟩
          exact .stop
        exact .stop
      refine .alt ?_ ?_
      · refine .v rfl rfl rfl rfl (.alloc rfl rfl) (by rintro _ _ ⟨_, hN⟩; exact hX10.trans hN.ext0) ?_
        rintro _ w3 ⟨rfl, N3⟩
        have z3 := N3.size
        have hX3 : Ext (fun k => w2.heap.size ≤ k) _ _ := hX10.trans (N3.ext0)
        refine .alt ?_ ?_
        · refine .call (first := []) (captured := []) rfl rfl rfl rfl rfl rfl (putsClone_fn (R := fun k => k < w.heap.size) ((Sl tPut).ext hwR ((N1.ext.trans N2.ext).mono (fun _ _ h => h.elim) |>.trans hX3) (by intro k hk _ he; have he : w2.heap.size ≤ k := he; omega)) hwl) (by rintro _ _ ⟨_, hx⟩; exact hX3.trans (hx.mono (fun _ _ h => h.elim))) ?_
          rintro r13 w13 ⟨O13, X13⟩
          have z13 := X13.size
          obtain ⟨a13, cap13, rfl, hc13⟩ := O13.val
          have hX13 : Ext (fun k => w2.heap.size ≤ k) _ _ := hX3.trans (X13.mono (fun _ _ h => h.elim))
          refine .p rfl rfl rfl rfl (fun wx hx => .build (cs := [i64 d.count, .slice (some ⟨w2.heap.size, 0, none⟩) d.data.length d.data.length, .slice a13 d.waits.length cap13]) rfl (fun _ => by kernel_rfl)) ?_
          refine .alt ?_ ?_
          · refine .s rfl rfl rfl (.storeAll (n := 3) (E := 36) (cs := [i64 0, .slice none 0 0, .slice none 0 0]) rfl rfl rfl rfl rfl (by first | exact N3.blk | exact N3.blk.ext N10.ext (fun x => x) | exact N3.blk.ext X13 (fun x => x) | exact (N3.blk.ext N10.ext (fun x => x)).ext X13 (fun x => x) | exact (N3.blk.ext X13 (fun x => x)).ext N10.ext (fun x => x)) rfl) (by intro wz hP; exact hX13.trans (hP.ext.mono (by rintro k _ rfl; show w2.heap.size ≤ _; omega))) ?_
            intro w11 P11
            have hXs11 : Ext (fun k => w2.heap.size ≤ k) _ _ := hX13.trans (P11.ext.mono (by rintro k _ rfl; show w2.heap.size ≤ _; omega))
            refine .nil ?_
            have hz11 := P11.size
            exact (meet (w2.heap.size, w10.heap.size, _, w11) ⟨P11.blk, (((N10.blk).ext N3.ext (fun x => x)).ext X13 (fun x => x)).ext P11.ext (by show ¬ w2.heap.size = w10.heap.size; omega), ((O13.mono (fun k hk _ => hk) (fun k hk hlt => (⟨hk, hlt⟩ : w3.heap.size ≤ k ∧ k < w13.heap.size))).ext P11.ext (by rintro k ⟨h1, h2⟩ _ he; have he : k = w10.heap.size := he; omega) (by rintro k ⟨h1, h2⟩ _ he; have he : k = w10.heap.size := he; omega)).mono (fun k hk _ => hk.1) (by rintro k ⟨h1, h2⟩ h3; exact ⟨by show w2.heap.size ≤ k; omega, by show k < w11.heap.size; omega, by show k ≠ w10.heap.size; omega, by show k ≠ w2.heap.size; omega⟩), (Ext.refl w2).then hXs11 (fun k hk _ => hk), by show w10.heap.size ≠ w2.heap.size; omega, by show w2.heap.size ≤ w10.heap.size; omega, by show w2.heap.size ≤ w2.heap.size; omega, by show w10.heap.size < w11.heap.size; omega, by show w2.heap.size < w11.heap.size; omega⟩).of ⟨rfl, rfl, rfl, trivial⟩
          exact .stop
        exact .stop
      exact .stop
    refine .alt ?_ ?_
    · refine .call (first := []) (captured := []) rfl rfl rfl rfl rfl rfl (putsClone_fn (R := fun k => k < w.heap.size) ((Sl tPut).ext hwR ((N1.ext.trans N2.ext).mono (fun _ _ h => h.elim) |>.trans (Ext.refl _)) (by intro k hk _ he; have he : w2.heap.size ≤ k := he; omega)) hwl) (by rintro _ _ ⟨_, hx⟩; exact (Ext.refl _).trans (hx.mono (fun _ _ h => h.elim))) ?_
      rintro r13 w13 ⟨O13, X13⟩
      have z13 := X13.size
      obtain ⟨a13, cap13, rfl, hc13⟩ := O13.val
      have hX13 : Ext (fun k => w2.heap.size ≤ k) _ _ := (Ext.refl _).trans (X13.mono (fun _ _ h => h.elim))
      refine .alt ?_ ?_
      · refine .v rfl rfl rfl rfl (.make (eb := 1) rfl rfl rfl rfl rfl rfl rfl rfl (by omega)) (by rintro _ _ ⟨_, hN⟩; exact hX13.trans hN.ext0) ?_
        rintro _ w10 ⟨rfl, N10⟩
        have z10 := N10.size
        have hX10 : Ext (fun k => w2.heap.size ≤ k) _ _ := hX13.trans (N10.ext0)
        refine .p rfl rfl rfl rfl (fun wx hx => .build (cs := [i64 d.count, .slice (some ⟨w13.heap.size, 0, none⟩) d.data.length d.data.length, .slice a13 d.waits.length cap13]) rfl (fun _ => by kernel_rfl)) ?_
        refine .alt ?_ ?_
        · refine .v rfl rfl rfl rfl (.alloc rfl rfl) (by rintro _ _ ⟨_, hN⟩; exact hX10.trans hN.ext0) ?_
          rintro _ w3 ⟨rfl, N3⟩
          have z3 := N3.size
          have hX3 : Ext (fun k => w2.heap.size ≤ k) _ _ := hX10.trans (N3.ext0)
          refine .alt ?_ ?_
          · refine .s rfl rfl rfl (.storeAll (n := 3) (E := 36) (cs := [i64 0, .slice none 0 0, .slice none 0 0]) rfl rfl rfl rfl rfl (by first | exact N3.blk | exact N3.blk.ext N10.ext (fun x => x) | exact N3.blk.ext X13 (fun x => x) | exact (N3.blk.ext N10.ext (fun x => x)).ext X13 (fun x => x) | exact (N3.blk.ext X13 (fun x => x)).ext N10.ext (fun x => x)) rfl) (by intro wz hP; exact hX3.trans (hP.ext.mono (by rintro k _ rfl; show w2.heap.size ≤ _; omega))) ?_
            intro w11 P11
            have hXs11 : Ext (fun k => w2.heap.size ≤ k) _ _ := hX3.trans (P11.ext.mono (by rintro k _ rfl; show w2.heap.size ≤ _; omega))
            refine .nil ?_
            have hz11 := P11.size
            exact (meet (w13.heap.size, w10.heap.size, _, w11) ⟨P11.blk, ((N10.blk).ext N3.ext (fun x => x)).ext P11.ext (by show ¬ w13.heap.size = w10.heap.size; omega), ((((O13.mono (fun k hk _ => hk) (fun k hk hlt => (⟨hk, hlt⟩ : w2.heap.size ≤ k ∧ k < w13.heap.size))).ext0 N10.ext).ext0 N3.ext).ext P11.ext (by rintro k ⟨h1, h2⟩ _ he; have he : k = w10.heap.size := he; omega) (by rintro k ⟨h1, h2⟩ _ he; have he : k = w10.heap.size := he; omega)).mono (fun k hk _ => hk.1) (by rintro k ⟨h1, h2⟩ h3; exact ⟨by show w2.heap.size ≤ k; omega, by show k < w11.heap.size; omega, by show k ≠ w10.heap.size; omega, by show k ≠ w13.heap.size; omega⟩), (Ext.refl w2).then hXs11 (fun k hk _ => hk), by show w10.heap.size ≠ w13.heap.size; omega, by show w2.heap.size ≤ w10.heap.size; omega, by show w2.heap.size ≤ w13.heap.size; omega, by show w10.heap.size < w11.heap.size; omega, by show w13.heap.size < w11.heap.size; omega⟩).of ⟨rfl, rfl, rfl, trivial⟩
          exact .stop
        exact .stop
      refine .alt ?_ ?_
      · refine .v rfl rfl rfl rfl (.alloc rfl rfl) (by rintro _ _ ⟨_, hN⟩; exact hX13.trans hN.ext0) ?_
        rintro _ w3 ⟨rfl, N3⟩
        have z3 := N3.size
        have hX3 : Ext (fun k => w2.heap.size ≤ k) _ _ := hX13.trans (N3.ext0)
        refine .alt ?_ ?_
        · refine .v rfl rfl rfl rfl (.make (eb := 1) rfl rfl rfl rfl rfl rfl rfl rfl (by omega)) (by rintro _ _ ⟨_, hN⟩; exact hX3.trans hN.ext0) ?_
          rintro _ w10 ⟨rfl, N10⟩
          have z10 := N10.size
          have hX10 : Ext (fun k => w2.heap.size ≤ k) _ _ := hX3.trans (N10.ext0)
          refine .p rfl rfl rfl rfl (fun wx hx => .build (cs := [i64 d.count, .slice (some ⟨w3.heap.size, 0, none⟩) d.data.length d.data.length, .slice a13 d.waits.length cap13]) rfl (fun _ => by kernel_rfl)) ?_
          refine .alt ?_ ?_
          · refine .s rfl rfl rfl (.storeAll (n := 3) (E := 36) (cs := [i64 0, .slice none 0 0, .slice none 0 0]) rfl rfl rfl rfl rfl (by first | exact N3.blk | exact N3.blk.ext N10.ext (fun x => x) | exact N3.blk.ext X13 (fun x => x) | exact (N3.blk.ext N10.ext (fun x => x)).ext X13 (fun x => x) | exact (N3.blk.ext X13 (fun x => x)).ext N10.ext (fun x => x)) rfl) (by intro wz hP; exact hX10.trans (hP.ext.mono (by rintro k _ rfl; show w2.heap.size ≤ _; omega))) ?_
            intro w11 P11
            have hXs11 : Ext (fun k => w2.heap.size ≤ k) _ _ := hX10.trans (P11.ext.mono (by rintro k _ rfl; show w2.heap.size ≤ _; omega))
            refine .nil ?_
            have hz11 := P11.size
            exact (meet (w3.heap.size, w13.heap.size, _, w11) ⟨P11.blk, (N10.blk).ext P11.ext (by show ¬ w3.heap.size = w13.heap.size; omega), ((((O13.mono (fun k hk _ => hk) (fun k hk hlt => (⟨hk, hlt⟩ : w2.heap.size ≤ k ∧ k < w13.heap.size))).ext0 N3.ext).ext0 N10.ext).ext P11.ext (by rintro k ⟨h1, h2⟩ _ he; have he : k = w13.heap.size := he; omega) (by rintro k ⟨h1, h2⟩ _ he; have he : k = w13.heap.size := he; omega)).mono (fun k hk _ => hk.1) (by rintro k ⟨h1, h2⟩ h3; exact ⟨by show w2.heap.size ≤ k; omega, by show k < w11.heap.size; omega, by show k ≠ w13.heap.size; omega, by show k ≠ w3.heap.size; omega⟩), (Ext.refl w2).then hXs11 (fun k hk _ => hk), by show w13.heap.size ≠ w3.heap.size; omega, by show w2.heap.size ≤ w13.heap.size; omega, by show w2.heap.size ≤ w3.heap.size; omega, by show w13.heap.size < w11.heap.size; omega, by show w3.heap.size < w11.heap.size; omega⟩).of ⟨rfl, rfl, rfl, trivial⟩
          exact .stop
        exact .stop
      exact .stop
    refine .alt ?_ ?_
    · refine .v rfl rfl rfl rfl (.alloc rfl rfl) (by rintro _ _ ⟨_, hN⟩; exact (Ext.refl _).trans hN.ext0) ?_
      rintro _ w3 ⟨rfl, N3⟩
      have z3 := N3.size
      have hX3 : Ext (fun k => w2.heap.size ≤ k) _ _ := (Ext.refl _).trans (N3.ext0)
      refine .alt ?_ ?_
      · refine .v rfl rfl rfl rfl (.make (eb := 1) rfl rfl rfl rfl rfl rfl rfl rfl (by omega)) (by rintro _ _ ⟨_, hN⟩; exact hX3.trans hN.ext0) ?_
        rintro _ w10 ⟨rfl, N10⟩
        have z10 := N10.size
        have hX10 : Ext (fun k => w2.heap.size ≤ k) _ _ := hX3.trans (N10.ext0)
        refine .alt ?_ ?_
        · refine .call (first := []) (captured := []) rfl rfl rfl rfl rfl rfl (putsClone_fn (R := fun k => k < w.heap.size) ((Sl tPut).ext hwR ((N1.ext.trans N2.ext).mono (fun _ _ h => h.elim) |>.trans hX10) (by intro k hk _ he; have he : w2.heap.size ≤ k := he; omega)) hwl) (by rintro _ _ ⟨_, hx⟩; exact hX10.trans (hx.mono (fun _ _ h => h.elim))) ?_
          rintro r13 w13 ⟨O13, X13⟩
          have z13 := X13.size
          obtain ⟨a13, cap13, rfl, hc13⟩ := O13.val
          have hX13 : Ext (fun k => w2.heap.size ≤ k) _ _ := hX10.trans (X13.mono (fun _ _ h => h.elim))
          refine .p rfl rfl rfl rfl (fun wx hx => .build (cs := [i64 d.count, .slice (some ⟨w3.heap.size, 0, none⟩) d.data.length d.data.length, .slice a13 d.waits.length cap13]) rfl (fun _ => by kernel_rfl)) ?_
          refine .alt ?_ ?_
          · refine .s rfl rfl rfl (.storeAll (n := 3) (E := 36) (cs := [i64 0, .slice none 0 0, .slice none 0 0]) rfl rfl rfl rfl rfl (by first | exact N3.blk | exact N3.blk.ext N10.ext (fun x => x) | exact N3.blk.ext X13 (fun x => x) | exact (N3.blk.ext N10.ext (fun x => x)).ext X13 (fun x => x) | exact (N3.blk.ext X13 (fun x => x)).ext N10.ext (fun x => x)) rfl) (by intro wz hP; exact hX13.trans (hP.ext.mono (by rintro k _ rfl; show w2.heap.size ≤ _; omega))) ?_
            intro w11 P11
            have hXs11 : Ext (fun k => w2.heap.size ≤ k) _ _ := hX13.trans (P11.ext.mono (by rintro k _ rfl; show w2.heap.size ≤ _; omega))
            refine .nil ?_
            have hz11 := P11.size
            exact (meet (w3.heap.size, w2.heap.size, _, w11) ⟨P11.blk, ((N10.blk).ext X13 (fun x => x)).ext P11.ext (by show ¬ w3.heap.size = w2.heap.size; omega), ((O13.mono (fun k hk _ => hk) (fun k hk hlt => (⟨hk, hlt⟩ : w10.heap.size ≤ k ∧ k < w13.heap.size))).ext P11.ext (by rintro k ⟨h1, h2⟩ _ he; have he : k = w2.heap.size := he; omega) (by rintro k ⟨h1, h2⟩ _ he; have he : k = w2.heap.size := he; omega)).mono (fun k hk _ => hk.1) (by rintro k ⟨h1, h2⟩ h3; exact ⟨by show w2.heap.size ≤ k; omega, by show k < w11.heap.size; omega, by show k ≠ w2.heap.size; omega, by show k ≠ w3.heap.size; omega⟩), (Ext.refl w2).then hXs11 (fun k hk _ => hk), by show w2.heap.size ≠ w3.heap.size; omega, by show w2.heap.size ≤ w2.heap.size; omega, by show w2.heap.size ≤ w3.heap.size; omega, by show w2.heap.size < w11.heap.size; omega, by show w3.heap.size < w11.heap.size; omega⟩).of ⟨rfl, rfl, rfl, trivial⟩
          exact .stop
        exact .stop
      refine .alt ?_ ?_
      · refine .call (first := []) (captured := []) rfl rfl rfl rfl rfl rfl (putsClone_fn (R := fun k => k < w.heap.size) ((Sl tPut).ext hwR ((N1.ext.trans N2.ext).mono (fun _ _ h => h.elim) |>.trans hX3) (by intro k hk _ he; have he : w2.heap.size ≤ k := he; omega)) hwl) (by rintro _ _ ⟨_, hx⟩; exact hX3.trans (hx.mono (fun _ _ h => h.elim))) ?_
        rintro r13 w13 ⟨O13, X13⟩
        have z13 := X13.size
        obtain ⟨a13, cap13, rfl, hc13⟩ := O13.val
        have hX13 : Ext (fun k => w2.heap.size ≤ k) _ _ := hX3.trans (X13.mono (fun _ _ h => h.elim))
        refine .alt ?_ ?_
        · refine .v rfl rfl rfl rfl (.make (eb := 1) rfl rfl rfl rfl rfl rfl rfl rfl (by omega)) (by rintro _ _ ⟨_, hN⟩; exact hX13.trans hN.ext0) ?_
          rintro _ w10 ⟨rfl, N10⟩
          have z10 := N10.size
          have hX10 : Ext (fun k => w2.heap.size ≤ k) _ _ := hX13.trans (N10.ext0)
          refine .p rfl rfl rfl rfl (fun wx hx => .build (cs := [i64 d.count, .slice (some ⟨w13.heap.size, 0, none⟩) d.data.length d.data.length, .slice a13 d.waits.length cap13]) rfl (fun _ => by kernel_rfl)) ?_
          refine .alt ?_ ?_
          · refine .s rfl rfl rfl (.storeAll (n := 3) (E := 36) (cs := [i64 0, .slice none 0 0, .slice none 0 0]) rfl rfl rfl rfl rfl (by first | exact N3.blk | exact N3.blk.ext N10.ext (fun x => x) | exact N3.blk.ext X13 (fun x => x) | exact (N3.blk.ext N10.ext (fun x => x)).ext X13 (fun x => x) | exact (N3.blk.ext X13 (fun x => x)).ext N10.ext (fun x => x)) rfl) (by intro wz hP; exact hX10.trans (hP.ext.mono (by rintro k _ rfl; show w2.heap.size ≤ _; omega))) ?_
            intro w11 P11
            have hXs11 : Ext (fun k => w2.heap.size ≤ k) _ _ := hX10.trans (P11.ext.mono (by rintro k _ rfl; show w2.heap.size ≤ _; omega))
            refine .nil ?_
            have hz11 := P11.size
            exact (meet (w13.heap.size, w2.heap.size, _, w11) ⟨P11.blk, (N10.blk).ext P11.ext (by show ¬ w13.heap.size = w2.heap.size; omega), (((O13.mono (fun k hk _ => hk) (fun k hk hlt => (⟨hk, hlt⟩ : w3.heap.size ≤ k ∧ k < w13.heap.size))).ext0 N10.ext).ext P11.ext (by rintro k ⟨h1, h2⟩ _ he; have he : k = w2.heap.size := he; omega) (by rintro k ⟨h1, h2⟩ _ he; have he : k = w2.heap.size := he; omega)).mono (fun k hk _ => hk.1) (by rintro k ⟨h1, h2⟩ h3; exact ⟨by show w2.heap.size ≤ k; omega, by show k < w11.heap.size; omega, by show k ≠ w2.heap.size; omega, by show k ≠ w13.heap.size; omega⟩), (Ext.refl w2).then hXs11 (fun k hk _ => hk), by show w2.heap.size ≠ w13.heap.size; omega, by show w2.heap.size ≤ w2.heap.size; omega, by show w2.heap.size ≤ w13.heap.size; omega, by show w2.heap.size < w11.heap.size; omega, by show w13.heap.size < w11.heap.size; omega⟩).of ⟨rfl, rfl, rfl, trivial⟩
          exact .stop
        exact .stop
      exact .stop
    exact .stop
end Go.Proofs.Ytapdacjpmmjlhaa
