import Derived.Test.YthliepcjfnjnoaaGreatDoorB11
import Derived.Test.YthliepcjfnjnoaaGreatDoorB04
import Derived.Test.YthliepcjfnjnoaaGreatDoorProg
set_option linter.unusedVariables false
set_option linter.unusedSimpArgs false
set_option maxRecDepth 20000
namespace Go.Proofs.YthliepcjfnjnoaaGreatDoor
open Go disk
theorem twin_fn {w : World} {v : Value} {d : Disk} (h : tDisk.rep All w v d) (hwl : d.waits.length ≤ 4096) : Fn Tryz.prog 43 [v] w (fun r w2 => OwnD w2 r d (fun k => w.heap.size ≤ k) ∧ Ext (fun _ => False) w w2) := by
  obtain ⟨u, u', rfl, hd, hw, hc1, hc2⟩ := tDisk.val h
  obtain ⟨a, cap, rfl, hcap⟩ := Sl.val hd
  have hlim := Sl.lim hd
  obtain ⟨aw, capw, rfl, hcapw⟩ := Sl.val hw
  have hlimL := hlim
  simp only [Lim] at hlim
  have hwR := (Sl tPut).mono hw (P' := fun k => k < w.heap.size) (fun k _ hk => hk)
  refine Fn.enter (fun w => Tryz.call43 _ w) Tryz.func43 rfl ?_
  refine .seq (.region ?_)
  refine .v rfl rfl (.box rfl) ?_
  rintro _ w1 ⟨rfl, N1⟩
  refine .v rfl rfl (.alloc rfl rfl) ?_
  rintro _ w2 ⟨rfl, N2⟩
  have B1 := N1.blk.ext N2.ext (fun x => x)
  have z1 := N1.size
  have z2 := N2.size
  refine .nil (.code (.seq (.keep [(2, _), (1, _)] ⟨rfl, rfl, trivial⟩ ?_)))
  refine .meet (S := Nat × Nat × Value × World) (fun s => [(3, .pointer (some ⟨s.2.1, 0, none⟩)), (1, .pointer (some ⟨w.heap.size, 0, none⟩)), (2, .pointer (some ⟨w1.heap.size, 0, none⟩))]) (fun s => s.2.2.2) (fun s => Blk s.2.2.2 s.2.1 46 [i64 d.count, .slice (some ⟨s.1, 0, none⟩) d.data.length d.data.length, s.2.2.1] ∧ Blk s.2.2.2 s.1 5 (List.replicate d.data.length (u8 0)) ∧ OwnO tPut (fun k => k < w.heap.size) 94 s.2.2.2 s.2.2.1 d.waits (fun k => w2.heap.size ≤ k ∧ k < s.2.2.2.heap.size ∧ k ≠ s.2.1 ∧ k ≠ s.1) ∧ Ext (fun _ => False) w2 s.2.2.2 ∧ s.2.1 ≠ s.1 ∧ w2.heap.size ≤ s.2.1 ∧ w2.heap.size ≤ s.1 ∧ s.2.1 < s.2.2.2.heap.size ∧ s.1 < s.2.2.2.heap.size) ?_ ?_
  · rintro ⟨bd, p, sw, wm⟩ ⟨hBp, hBd, hO, hX, hne, hp, hbd, hpl, hbl⟩
    simp only at hBp hBd hO hX hne hp hbd hpl hbl
    obtain ⟨asl, caps, rfl, hcaps⟩ := hO.val
    have zX : w2.heap.size ≤ wm.heap.size := hX.size
    refine .code (.seq (.region ?_))
    refine .p rfl rfl (.fieldAddr rfl rfl rfl rfl) ?_
    refine .p rfl rfl (.load rfl rfl rfl (hBp.cell 1)) ?_
    refine .p rfl rfl (.fieldAddr rfl rfl rfl rfl) ?_
    refine .p rfl rfl (.load rfl rfl rfl ((B1.ext hX (fun x => x)).cell 1)) ?_
    refine .v rfl rfl (.copyB rfl hBd rfl (tBytes.ext0 hd (N1.ext.trans (N2.ext.trans hX))) rfl rfl (by simp)) ?_
    rintro _ w19 ⟨rfl, P19⟩
    have B19 : Blk w19 bd 5 (d.data.map u8) := by have := P19.blk; simpa using this
    have Bp19 := hBp.ext P19.ext hne
    have H19 := HalfO.first (Q1 := fun k => wm.heap.size ≤ k) (hO.ext P19.ext (fun k hk _ => hk.2.2.2) (fun k hk _ he => by have he : k = bd := he; omega))
    have hs19 : w19.heap.size = wm.heap.size := P19.size
    have X19 := hX.then P19.ext (by rintro k rfl _; exact hbd)
    refine .nil (.code (.seq (.seq (.keep [(3, _), (2, _)] ⟨rfl, rfl, trivial⟩ (.region ?_)))))
    refine .p rfl rfl (.fieldAddr rfl rfl rfl rfl) ?_
    refine .p rfl rfl (.load rfl rfl rfl (Bp19.cell 2)) ?_
    refine .p rfl rfl (.len rfl rfl) ?_
    refine .p rfl rfl (.mv rfl) ?_
    refine .nil (.code (.block (.keep [(23, _), (22, _), (3, _), (2, _)] ⟨rfl, rfl, rfl, rfl, trivial⟩ ?_)))
    refine .loop (S := Nat × World) (fun s => [(2, .pointer (some ⟨w1.heap.size, 0, none⟩)), (3, .pointer (some ⟨p, 0, none⟩)), (22, i64 d.waits.length), (23, i64 s.1)]) (fun s => s.2) (fun s => s.1 ≤ d.waits.length ∧ Blk s.2 p 46 [i64 d.count, .slice (some ⟨bd, 0, none⟩) d.data.length d.data.length, .slice asl d.waits.length caps] ∧ Blk s.2 bd 5 (d.data.map u8) ∧ HalfO s.2 (.slice asl d.waits.length caps) 94 d.waits (fun k => k < w.heap.size) (fun k => wm.heap.size ≤ k) (fun k => w2.heap.size ≤ k ∧ k < wm.heap.size ∧ k ≠ p ∧ k ≠ bd) s.1 ∧ Ext (fun _ => False) w2 s.2 ∧ wm.heap.size ≤ s.2.heap.size) (fun s => d.waits.length - s.1) (0, w19) ⟨rfl, rfl, rfl, rfl, trivial⟩ rfl ⟨Nat.zero_le _, Bp19, B19, H19, X19, by show wm.heap.size ≤ w19.heap.size; omega⟩ ?_
    rintro ⟨i, wi⟩ J ⟨hi', hBi, hDi, hHi, hXi, hzi⟩ again
    simp only at hi' hBi hDi hHi hXi hzi
    refine .seq (.region ?_)
    refine .p rfl rfl (.lt rfl rfl) ?_
    refine .nil (.code (.seq ?_))
    refine .condD rfl (fun c24 => ?_) (fun c24 => ?_)
    · have hil : i < d.waits.length := by omega
      obtain ⟨hnil, _⟩ | ⟨b, cap', hv, hcap', hb, hlw, hH⟩ := hHi
      · rw [hnil] at hil; exact absurd hil (Nat.not_lt_zero _)
      cases hv
      obtain ⟨ud, hud, hce⟩ := hH.elem hil
      refine .skip (.code (.seq (.block (.seq (.keep [(2, _), (3, _), (22, _), (23, _)] ⟨rfl, rfl, rfl, rfl, trivial⟩ (.region ?_))))))
      refine .p rfl rfl (.mv rfl) ?_
      refine .p rfl rfl (.as rfl) ?_
      refine .nil (.code (.keep [(4, _), (2, _), (3, _), (22, _), (23, _)] ⟨rfl, rfl, rfl, rfl, rfl, trivial⟩ (.mix ((· = b)) [8, 9, 12] (by kernel_rfl) (by kernel_rfl) (by kernel_rfl) ?_)))
      refine .p rfl rfl rfl (fun wx hx => .fieldAddr rfl rfl rfl rfl) ?_
      refine .p rfl rfl rfl (fun wx hx => .load rfl rfl rfl ((hBi.ext hx (fun he => hb.2.2.1 he.symm)).cell 2)) ?_
      refine .p rfl rfl rfl (fun wx hx => .mv rfl) ?_
      refine .p rfl rfl rfl (fun wx hx => .fieldAddr rfl rfl rfl rfl) ?_
      refine .p rfl rfl rfl (fun wx hx => .load rfl rfl rfl ((hBi.ext hx (fun he => hb.2.2.1 he.symm)).cell 2)) ?_
      refine .p rfl rfl rfl (fun wx hx => .mv rfl) ?_
      refine .p rfl rfl rfl (fun wx hx => .cast (.indexAddr (s := 2) rfl rfl rfl rfl (by omega)) (show _ = Value.pointer (some ⟨b, i * 2, none⟩) by simp)) ?_
      refine .p rfl rfl rfl (fun wx hx => .fieldAddr rfl rfl rfl rfl) ?_
      refine .v rfl rfl rfl (.ofEv (.load rfl rfl rfl hce)) (by rintro _ _ ⟨rfl, rfl⟩; exact .refl _) ?_
      rintro _ wz ⟨rfl, hz⟩
      subst wz
      refine .call (first := []) (captured := []) rfl rfl rfl rfl rfl (bytesClone_fn (tBytes.all hud)) (by rintro _ _ ⟨_, _, _, hx⟩; exact hx.mono (fun _ _ h => h.elim)) ?_
      rintro r35 w35 ⟨b35, O35, hb35, X35⟩
      obtain ⟨a35, cap35, rfl, hc35⟩ := O35.val
      have z35 : wi.heap.size ≤ w35.heap.size := X35.size
      have hb35 : wi.heap.size ≤ b35 := hb35
      obtain ⟨cs, hcsB, hcsl, hput⟩ := HalfAt.put hH hil X35 (r := .slice a35 d.waits[i].data.length cap35) (OwnB.of O35 (by show wm.heap.size ≤ b35; omega)) (fun k hk he => by omega) (fun k hk he => by omega)
      refine .p rfl rfl rfl (fun wx hx => .cast (.indexAddr (s := 2) rfl rfl rfl rfl (by omega)) (show _ = Value.pointer (some ⟨b, i * 2, none⟩) by simp)) ?_
      refine .p rfl rfl rfl (fun wx hx => .fieldAddr rfl rfl rfl rfl) ?_
      refine .s rfl rfl (.store rfl rfl rfl rfl rfl hcsB hcsl) (by intro wz hP; exact (X35.mono (fun _ _ h => h.elim)).trans hP.ext) ?_
      intro w36 P36
      have H36 := hput w36 P36
      have z36 := P36.size
      have X36 := (hXi.trans X35).then P36.ext (by rintro k rfl _; exact hb.1)
      refine .nil (.blk (.code (.keep [(2, _), (3, _), (22, _), (23, _)] ⟨rfl, rfl, rfl, rfl, trivial⟩ (.region ?_))))
      refine .p rfl rfl (.add rfl rfl (by omega)) ?_
      refine .p rfl rfl (.mv rfl) ?_
      refine .nil ?_
      exact (again (i + 1, w36) ⟨by show i + 1 ≤ _; omega, (hBi.ext X35 (fun x => x)).ext P36.ext (fun he => hb.2.2.1 he.symm), (hDi.ext X35 (fun x => x)).ext P36.ext (fun he => hb.2.2.2 he.symm), .inr ⟨b, caps, rfl, hcaps, hb, hlw, H36⟩, X36, by show wm.heap.size ≤ w36.heap.size; omega⟩ (by show _ - (i + 1) < _ - i; omega)).of ⟨rfl, rfl, rfl, rfl, trivial⟩
    · obtain rfl : i = d.waits.length := by omega
      have hL := hHi.last
      have zi := hXi.size
      refine .exit rfl (.code (.seq (.keep [(2, _), (3, _)] ⟨rfl, rfl, trivial⟩ (.region ?_))))
      refine .p rfl rfl (.loadA (n := 3) rfl rfl rfl rfl rfl hBi.cells) ?_
      refine .s rfl (.storeAll (n := 3) rfl rfl rfl rfl rfl (N2.blk.ext hXi (fun x => x)) rfl) ?_
      intro w40 P40
      refine .nil (.code ?_)
      refine .retR (.cell (n := 3) rfl rfl rfl rfl rfl (P40.blk.cells) .nil) ?_
      have hs40 : w40.heap.size = wi.heap.size := P40.size
      have D40 : Own tByte (fun _ => False) 5 w40 (.slice (some ⟨bd, 0, none⟩) d.data.length d.data.length) d.data bd := Own.ofBlk (sp := []) (by rw [List.append_nil]; exact hDi.ext P40.ext (by show ¬ bd = w1.heap.size; omega)) hlimL rfl rfl
      have L40 := (hL.mono (Q' := fun k => wm.heap.size ≤ k) (fun _ h _ => h) (fun _ h _ => h)).ext P40.ext (fun k hk _ he => by have hk : w2.heap.size ≤ k := hk.1; have he : k = w1.heap.size := he; omega) (fun k hk _ he => by have hk : wm.heap.size ≤ k := hk; have he : k = w1.heap.size := he; omega)
      refine ⟨?_, (N1.ext.trans (N2.ext.trans hXi)).then P40.ext (by rintro k rfl _; show w.heap.size ≤ w1.heap.size; omega)⟩
      rcases L40 with ⟨h1, h2⟩ | ⟨b, h1, h2, h3⟩
      · exact ⟨_, _, bd, p, fun _ => False, rfl, ⟨hc1, hc2⟩, D40, by rw [h1] at *; rw [h2]; exact Own.nil, ⟨by omega, by omega, fun he => hne he.symm, by show w.heap.size ≤ bd; omega, by show w.heap.size ≤ p; omega⟩, fun k h _ => h.elim⟩
      · have h1' : w2.heap.size ≤ b ∧ b < wm.heap.size ∧ b ≠ p ∧ b ≠ bd := h1
        exact ⟨_, _, bd, b, fun k => wm.heap.size ≤ k, rfl, ⟨hc1, hc2⟩, D40, h3, ⟨by omega, h2, fun he => h1.2.2.2 he.symm, by show w.heap.size ≤ bd; omega, by show w.heap.size ≤ b; omega⟩, fun k hk _ => by have hk : wm.heap.size ≤ k := hk; exact ⟨by show w.heap.size ≤ k; omega, by omega, by omega⟩⟩
  · intro meet
    refine .tree (fun k => w2.heap.size ≤ k) [5, 8, 10, 11] (.op 0 (.op 1 (.op 2 (.op 3 (.op 4 (.op 6 (.op 7 (.alt 5 (.op 5 (.alt 8 (.op 8 (.op 9 (.alt 10 (.op 10 (.alt 11 (.op 11 (.nil)) (.stop))) (.stop)))) (.alt 10 (.op 10 (.alt 8 (.op 8 (.op 9 (.alt 11 (.op 11 (.nil)) (.stop)))) (.stop))) (.stop)))) (.alt 8 (.op 8 (.alt 5 (.op 5 (.op 9 (.alt 10 (.op 10 (.alt 11 (.op 11 (.nil)) (.stop))) (.stop)))) (.alt 10 (.op 10 (.alt 5 (.op 5 (.op 9 (.alt 11 (.op 11 (.nil)) (.stop)))) (.stop))) (.stop)))) (.alt 10 (.op 10 (.alt 5 (.op 5 (.alt 8 (.op 8 (.op 9 (.alt 11 (.op 11 (.nil)) (.stop)))) (.stop))) (.alt 8 (.op 8 (.alt 5 (.op 5 (.op 9 (.alt 11 (.op 11 (.nil)) (.stop)))) (.stop))) (.stop)))) (.stop))))))))))) (by kernel_rfl) (by kernel_rfl) (by kernel_rfl) ?_
    refine .p rfl rfl rfl rfl (fun wx hx => .fieldAddr rfl rfl rfl rfl) ?_
    refine .p rfl rfl rfl rfl (fun wx hx => .load rfl rfl rfl ((B1.ext hx (by show ¬ (w2.heap.size ≤ w.heap.size); omega)).cell 0)) ?_
    refine .p rfl rfl rfl rfl (fun wx hx => .fieldAddr rfl rfl rfl rfl) ?_
    refine .p rfl rfl rfl rfl (fun wx hx => .load rfl rfl rfl ((B1.ext hx (by show ¬ (w2.heap.size ≤ w.heap.size); omega)).cell 1)) ?_
    refine .p rfl rfl rfl rfl (fun wx hx => .len rfl rfl) ?_
    refine .p rfl rfl rfl rfl (fun wx hx => .fieldAddr rfl rfl rfl rfl) ?_
    refine .p rfl rfl rfl rfl (fun wx hx => .load rfl rfl rfl ((B1.ext hx (by show ¬ (w2.heap.size ≤ w.heap.size); omega)).cell 2)) ?_
    refine .alt ?_ ?_
    · refine .v rfl rfl rfl rfl (.make (eb := 1) rfl rfl rfl rfl rfl rfl rfl rfl (by omega)) (by rintro _ _ ⟨_, hN⟩; exact ((Ext.refl _)).trans hN.ext0) ?_
      rintro _ w10 ⟨rfl, N10⟩
      have z10 := N10.size
      have hX10 : Ext (fun k => w2.heap.size ≤ k) _ _ := (Ext.refl _).trans (N10.ext0)
      refine .alt ?_ ?_
      · refine .call (first := []) (captured := []) rfl rfl rfl rfl rfl rfl (putsClone_fn (R := fun k => k < w.heap.size) ((Sl tPut).ext hwR ((N1.ext.trans N2.ext).mono (fun _ _ h => h.elim) |>.trans hX10) (by intro k hk _ he; have he : w2.heap.size ≤ k := he; omega)) hwl) (by rintro _ _ ⟨_, hx⟩; exact hX10.trans (hx.mono (fun _ _ h => h.elim))) ?_
        rintro r13 w13 ⟨O13, X13⟩
        have z13 := X13.size
        obtain ⟨a13, cap13, rfl, hc13⟩ := O13.val
        have hX13 : Ext (fun k => w2.heap.size ≤ k) _ _ := hX10.trans (X13.mono (fun _ _ h => h.elim))
        refine .p rfl rfl rfl rfl (fun wx hx => .build (cs := [i64 d.count, .slice (some ⟨w2.heap.size, 0, none⟩) d.data.length d.data.length, .slice a13 d.waits.length cap13]) rfl (fun _ => by kernel_rfl)) ?_
        refine .alt ?_ ?_
        · refine .v rfl rfl rfl rfl (.alloc rfl rfl) (by rintro _ _ ⟨_, hN⟩; exact hX13.trans hN.ext0) ?_
          rintro _ w3 ⟨rfl, N3⟩
          have z3 := N3.size
          have hX3 : Ext (fun k => w2.heap.size ≤ k) _ _ := hX13.trans (N3.ext0)
          refine .alt ?_ ?_
          · refine .s rfl rfl rfl (.storeAll (n := 3) (E := 46) (cs := [i64 0, .slice none 0 0, .slice none 0 0]) rfl rfl rfl rfl rfl (by first | exact N3.blk | exact N3.blk.ext N10.ext (fun x => x) | exact N3.blk.ext X13 (fun x => x) | exact (N3.blk.ext N10.ext (fun x => x)).ext X13 (fun x => x) | exact (N3.blk.ext X13 (fun x => x)).ext N10.ext (fun x => x)) rfl) (by intro wz hP; exact hX3.trans (hP.ext.mono (by rintro k _ rfl; show w2.heap.size ≤ _; omega))) ?_
            intro w11 P11
            have hXs11 : Ext (fun k => w2.heap.size ≤ k) _ _ := hX3.trans (P11.ext.mono (by rintro k _ rfl; show w2.heap.size ≤ _; omega))
            refine .nil ?_
            have hz11 := P11.size
            exact (meet (w2.heap.size, w13.heap.size, _, w11) ⟨P11.blk, (((N10.blk).ext X13 (fun x => x)).ext N3.ext (fun x => x)).ext P11.ext (by show ¬ w2.heap.size = w13.heap.size; omega), (((O13.mono (fun k hk _ => hk) (fun k hk hlt => (⟨hk, hlt⟩ : w10.heap.size ≤ k ∧ k < w13.heap.size))).ext0 N3.ext).ext P11.ext (by rintro k ⟨h1, h2⟩ _ he; have he : k = w13.heap.size := he; omega) (by rintro k ⟨h1, h2⟩ _ he; have he : k = w13.heap.size := he; omega)).mono (fun k hk _ => hk.1) (by rintro k ⟨h1, h2⟩ h3; exact ⟨by show w2.heap.size ≤ k; omega, by show k < w11.heap.size; omega, by show k ≠ w13.heap.size; omega, by show k ≠ w2.heap.size; omega⟩), (Ext.refl w2).then hXs11 (fun k hk _ => hk), by show w13.heap.size ≠ w2.heap.size; omega, by show w2.heap.size ≤ w13.heap.size; omega, by show w2.heap.size ≤ w2.heap.size; omega, by show w13.heap.size < w11.heap.size; omega, by show w2.heap.size < w11.heap.size; omega⟩).of ⟨rfl, rfl, rfl, trivial⟩
          exact .stop
        exact .stop
      refine .alt ?_ ?_
      · refine .v rfl rfl rfl rfl (.alloc rfl rfl) (by rintro _ _ ⟨_, hN⟩; exact hX10.trans hN.ext0) ?_
        rintro _ w3 ⟨rfl, N3⟩
        have z3 := N3.size
        have hX3 : Ext (fun k => w2.heap.size ≤ k) _ _ := hX10.trans (N3.ext0)
        refine .alt ?_ ?_
        · refine .call (first := []) (captured := []) rfl rfl rfl rfl rfl rfl (putsClone_fn (R := fun k => k < w.heap.size) ((Sl tPut).ext hwR ((N1.ext.trans N2.ext).mono (fun _ _ h => h.elim) |>.trans hX3) (by intro k hk _ he; have he : w2.heap.size ≤ k := he; omega)) hwl) (by rintro _ _ ⟨_, hx⟩; exact hX3.trans (hx.mono (fun _ _ h => h.elim))) ?_
          rintro r13 w13 ⟨O13, X13⟩
          have z13 := X13.size
          obtain ⟨a13, cap13, rfl, hc13⟩ := O13.val
          have hX13 : Ext (fun k => w2.heap.size ≤ k) _ _ := hX3.trans (X13.mono (fun _ _ h => h.elim))
          refine .p rfl rfl rfl rfl (fun wx hx => .build (cs := [i64 d.count, .slice (some ⟨w2.heap.size, 0, none⟩) d.data.length d.data.length, .slice a13 d.waits.length cap13]) rfl (fun _ => by kernel_rfl)) ?_
          refine .alt ?_ ?_
          · refine .s rfl rfl rfl (.storeAll (n := 3) (E := 46) (cs := [i64 0, .slice none 0 0, .slice none 0 0]) rfl rfl rfl rfl rfl (by first | exact N3.blk | exact N3.blk.ext N10.ext (fun x => x) | exact N3.blk.ext X13 (fun x => x) | exact (N3.blk.ext N10.ext (fun x => x)).ext X13 (fun x => x) | exact (N3.blk.ext X13 (fun x => x)).ext N10.ext (fun x => x)) rfl) (by intro wz hP; exact hX13.trans (hP.ext.mono (by rintro k _ rfl; show w2.heap.size ≤ _; omega))) ?_
            intro w11 P11
            have hXs11 : Ext (fun k => w2.heap.size ≤ k) _ _ := hX13.trans (P11.ext.mono (by rintro k _ rfl; show w2.heap.size ≤ _; omega))
            refine .nil ?_
            have hz11 := P11.size
            exact (meet (w2.heap.size, w10.heap.size, _, w11) ⟨P11.blk, (((N10.blk).ext N3.ext (fun x => x)).ext X13 (fun x => x)).ext P11.ext (by show ¬ w2.heap.size = w10.heap.size; omega), ((O13.mono (fun k hk _ => hk) (fun k hk hlt => (⟨hk, hlt⟩ : w3.heap.size ≤ k ∧ k < w13.heap.size))).ext P11.ext (by rintro k ⟨h1, h2⟩ _ he; have he : k = w10.heap.size := he; omega) (by rintro k ⟨h1, h2⟩ _ he; have he : k = w10.heap.size := he; omega)).mono (fun k hk _ => hk.1) (by rintro k ⟨h1, h2⟩ h3; exact ⟨by show w2.heap.size ≤ k; omega, by show k < w11.heap.size; omega, by show k ≠ w10.heap.size; omega, by show k ≠ w2.heap.size; omega⟩), (Ext.refl w2).then hXs11 (fun k hk _ => hk), by show w10.heap.size ≠ w2.heap.size; omega, by show w2.heap.size ≤ w10.heap.size; omega, by show w2.heap.size ≤ w2.heap.size; omega, by show w10.heap.size < w11.heap.size; omega, by show w2.heap.size < w11.heap.size; omega⟩).of ⟨rfl, rfl, rfl, trivial⟩
          exact .stop
        exact .stop
      exact .stop
    refine .alt ?_ ?_
    · refine .call (first := []) (captured := []) rfl rfl rfl rfl rfl rfl (putsClone_fn (R := fun k => k < w.heap.size) ((Sl tPut).ext hwR ((N1.ext.trans N2.ext).mono (fun _ _ h => h.elim) |>.trans (Ext.refl _)) (by intro k hk _ he; have he : w2.heap.size ≤ k := he; omega)) hwl) (by rintro _ _ ⟨_, hx⟩; exact (Ext.refl _).trans (hx.mono (fun _ _ h => h.elim))) ?_
      rintro r13 w13 ⟨O13, X13⟩
      have z13 := X13.size
      obtain ⟨a13, cap13, rfl, hc13⟩ := O13.val
      have hX13 : Ext (fun k => w2.heap.size ≤ k) _ _ := (Ext.refl _).trans (X13.mono (fun _ _ h => h.elim))
      refine .alt ?_ ?_
      · refine .v rfl rfl rfl rfl (.make (eb := 1) rfl rfl rfl rfl rfl rfl rfl rfl (by omega)) (by rintro _ _ ⟨_, hN⟩; exact hX13.trans hN.ext0) ?_
        rintro _ w10 ⟨rfl, N10⟩
        have z10 := N10.size
        have hX10 : Ext (fun k => w2.heap.size ≤ k) _ _ := hX13.trans (N10.ext0)
        refine .p rfl rfl rfl rfl (fun wx hx => .build (cs := [i64 d.count, .slice (some ⟨w13.heap.size, 0, none⟩) d.data.length d.data.length, .slice a13 d.waits.length cap13]) rfl (fun _ => by kernel_rfl)) ?_
        refine .alt ?_ ?_
        · refine .v rfl rfl rfl rfl (.alloc rfl rfl) (by rintro _ _ ⟨_, hN⟩; exact hX10.trans hN.ext0) ?_
          rintro _ w3 ⟨rfl, N3⟩
          have z3 := N3.size
          have hX3 : Ext (fun k => w2.heap.size ≤ k) _ _ := hX10.trans (N3.ext0)
          refine .alt ?_ ?_
          · refine .s rfl rfl rfl (.storeAll (n := 3) (E := 46) (cs := [i64 0, .slice none 0 0, .slice none 0 0]) rfl rfl rfl rfl rfl (by first | exact N3.blk | exact N3.blk.ext N10.ext (fun x => x) | exact N3.blk.ext X13 (fun x => x) | exact (N3.blk.ext N10.ext (fun x => x)).ext X13 (fun x => x) | exact (N3.blk.ext X13 (fun x => x)).ext N10.ext (fun x => x)) rfl) (by intro wz hP; exact hX3.trans (hP.ext.mono (by rintro k _ rfl; show w2.heap.size ≤ _; omega))) ?_
            intro w11 P11
            have hXs11 : Ext (fun k => w2.heap.size ≤ k) _ _ := hX3.trans (P11.ext.mono (by rintro k _ rfl; show w2.heap.size ≤ _; omega))
            refine .nil ?_
            have hz11 := P11.size
            exact (meet (w13.heap.size, w10.heap.size, _, w11) ⟨P11.blk, ((N10.blk).ext N3.ext (fun x => x)).ext P11.ext (by show ¬ w13.heap.size = w10.heap.size; omega), ((((O13.mono (fun k hk _ => hk) (fun k hk hlt => (⟨hk, hlt⟩ : w2.heap.size ≤ k ∧ k < w13.heap.size))).ext0 N10.ext).ext0 N3.ext).ext P11.ext (by rintro k ⟨h1, h2⟩ _ he; have he : k = w10.heap.size := he; omega) (by rintro k ⟨h1, h2⟩ _ he; have he : k = w10.heap.size := he; omega)).mono (fun k hk _ => hk.1) (by rintro k ⟨h1, h2⟩ h3; exact ⟨by show w2.heap.size ≤ k; omega, by show k < w11.heap.size; omega, by show k ≠ w10.heap.size; omega, by show k ≠ w13.heap.size; omega⟩), (Ext.refl w2).then hXs11 (fun k hk _ => hk), by show w10.heap.size ≠ w13.heap.size; omega, by show w2.heap.size ≤ w10.heap.size; omega, by show w2.heap.size ≤ w13.heap.size; omega, by show w10.heap.size < w11.heap.size; omega, by show w13.heap.size < w11.heap.size; omega⟩).of ⟨rfl, rfl, rfl, trivial⟩
          exact .stop
        exact .stop
      refine .alt ?_ ?_
      · refine .v rfl rfl rfl rfl (.alloc rfl rfl) (by rintro _ _ ⟨_, hN⟩; exact hX13.trans hN.ext0) ?_
        rintro _ w3 ⟨rfl, N3⟩
        have z3 := N3.size
        have hX3 : Ext (fun k => w2.heap.size ≤ k) _ _ := hX13.trans (N3.ext0)
        refine .alt ?_ ?_
        · refine .v rfl rfl rfl rfl (.make (eb := 1) rfl rfl rfl rfl rfl rfl rfl rfl (by omega)) (by rintro _ _ ⟨_, hN⟩; exact hX3.trans hN.ext0) ?_
          rintro _ w10 ⟨rfl, N10⟩
          have z10 := N10.size
          have hX10 : Ext (fun k => w2.heap.size ≤ k) _ _ := hX3.trans (N10.ext0)
          refine .p rfl rfl rfl rfl (fun wx hx => .build (cs := [i64 d.count, .slice (some ⟨w3.heap.size, 0, none⟩) d.data.length d.data.length, .slice a13 d.waits.length cap13]) rfl (fun _ => by kernel_rfl)) ?_
          refine .alt ?_ ?_
          · refine .s rfl rfl rfl (.storeAll (n := 3) (E := 46) (cs := [i64 0, .slice none 0 0, .slice none 0 0]) rfl rfl rfl rfl rfl (by first | exact N3.blk | exact N3.blk.ext N10.ext (fun x => x) | exact N3.blk.ext X13 (fun x => x) | exact (N3.blk.ext N10.ext (fun x => x)).ext X13 (fun x => x) | exact (N3.blk.ext X13 (fun x => x)).ext N10.ext (fun x => x)) rfl) (by intro wz hP; exact hX10.trans (hP.ext.mono (by rintro k _ rfl; show w2.heap.size ≤ _; omega))) ?_
            intro w11 P11
            have hXs11 : Ext (fun k => w2.heap.size ≤ k) _ _ := hX10.trans (P11.ext.mono (by rintro k _ rfl; show w2.heap.size ≤ _; omega))
            refine .nil ?_
            have hz11 := P11.size
            exact (meet (w3.heap.size, w13.heap.size, _, w11) ⟨P11.blk, (N10.blk).ext P11.ext (by show ¬ w3.heap.size = w13.heap.size; omega), ((((O13.mono (fun k hk _ => hk) (fun k hk hlt => (⟨hk, hlt⟩ : w2.heap.size ≤ k ∧ k < w13.heap.size))).ext0 N3.ext).ext0 N10.ext).ext P11.ext (by rintro k ⟨h1, h2⟩ _ he; have he : k = w13.heap.size := he; omega) (by rintro k ⟨h1, h2⟩ _ he; have he : k = w13.heap.size := he; omega)).mono (fun k hk _ => hk.1) (by rintro k ⟨h1, h2⟩ h3; exact ⟨by show w2.heap.size ≤ k; omega, by show k < w11.heap.size; omega, by show k ≠ w13.heap.size; omega, by show k ≠ w3.heap.size; omega⟩), (Ext.refl w2).then hXs11 (fun k hk _ => hk), by show w13.heap.size ≠ w3.heap.size; omega, by show w2.heap.size ≤ w13.heap.size; omega, by show w2.heap.size ≤ w3.heap.size; omega, by show w13.heap.size < w11.heap.size; omega, by show w3.heap.size < w11.heap.size; omega⟩).of ⟨rfl, rfl, rfl, trivial⟩
          exact .stop
        exact .stop
      exact .stop
    refine .alt ?_ ?_
    · refine .v rfl rfl rfl rfl (.alloc rfl rfl) (by rintro _ _ ⟨_, hN⟩; exact (Ext.refl _).trans hN.ext0) ?_
      rintro _ w3 ⟨rfl, N3⟩
      have z3 := N3.size
      have hX3 : Ext (fun k => w2.heap.size ≤ k) _ _ := (Ext.refl _).trans (N3.ext0)
      refine .alt ?_ ?_
      · refine .v rfl rfl rfl rfl (.make (eb := 1) rfl rfl rfl rfl rfl rfl rfl rfl (by omega)) (by rintro _ _ ⟨_, hN⟩; exact hX3.trans hN.ext0) ?_
        rintro _ w10 ⟨rfl, N10⟩
        have z10 := N10.size
        have hX10 : Ext (fun k => w2.heap.size ≤ k) _ _ := hX3.trans (N10.ext0)
        refine .alt ?_ ?_
        · refine .call (first := []) (captured := []) rfl rfl rfl rfl rfl rfl (putsClone_fn (R := fun k => k < w.heap.size) ((Sl tPut).ext hwR ((N1.ext.trans N2.ext).mono (fun _ _ h => h.elim) |>.trans hX10) (by intro k hk _ he; have he : w2.heap.size ≤ k := he; omega)) hwl) (by rintro _ _ ⟨_, hx⟩; exact hX10.trans (hx.mono (fun _ _ h => h.elim))) ?_
          rintro r13 w13 ⟨O13, X13⟩
          have z13 := X13.size
          obtain ⟨a13, cap13, rfl, hc13⟩ := O13.val
          have hX13 : Ext (fun k => w2.heap.size ≤ k) _ _ := hX10.trans (X13.mono (fun _ _ h => h.elim))
          refine .p rfl rfl rfl rfl (fun wx hx => .build (cs := [i64 d.count, .slice (some ⟨w3.heap.size, 0, none⟩) d.data.length d.data.length, .slice a13 d.waits.length cap13]) rfl (fun _ => by kernel_rfl)) ?_
          refine .alt ?_ ?_
          · refine .s rfl rfl rfl (.storeAll (n := 3) (E := 46) (cs := [i64 0, .slice none 0 0, .slice none 0 0]) rfl rfl rfl rfl rfl (by first | exact N3.blk | exact N3.blk.ext N10.ext (fun x => x) | exact N3.blk.ext X13 (fun x => x) | exact (N3.blk.ext N10.ext (fun x => x)).ext X13 (fun x => x) | exact (N3.blk.ext X13 (fun x => x)).ext N10.ext (fun x => x)) rfl) (by intro wz hP; exact hX13.trans (hP.ext.mono (by rintro k _ rfl; show w2.heap.size ≤ _; omega))) ?_
            intro w11 P11
            have hXs11 : Ext (fun k => w2.heap.size ≤ k) _ _ := hX13.trans (P11.ext.mono (by rintro k _ rfl; show w2.heap.size ≤ _; omega))
            refine .nil ?_
            have hz11 := P11.size
            exact (meet (w3.heap.size, w2.heap.size, _, w11) ⟨P11.blk, ((N10.blk).ext X13 (fun x => x)).ext P11.ext (by show ¬ w3.heap.size = w2.heap.size; omega), ((O13.mono (fun k hk _ => hk) (fun k hk hlt => (⟨hk, hlt⟩ : w10.heap.size ≤ k ∧ k < w13.heap.size))).ext P11.ext (by rintro k ⟨h1, h2⟩ _ he; have he : k = w2.heap.size := he; omega) (by rintro k ⟨h1, h2⟩ _ he; have he : k = w2.heap.size := he; omega)).mono (fun k hk _ => hk.1) (by rintro k ⟨h1, h2⟩ h3; exact ⟨by show w2.heap.size ≤ k; omega, by show k < w11.heap.size; omega, by show k ≠ w2.heap.size; omega, by show k ≠ w3.heap.size; omega⟩), (Ext.refl w2).then hXs11 (fun k hk _ => hk), by show w2.heap.size ≠ w3.heap.size; omega, by show w2.heap.size ≤ w2.heap.size; omega, by show w2.heap.size ≤ w3.heap.size; omega, by show w2.heap.size < w11.heap.size; omega, by show w3.heap.size < w11.heap.size; omega⟩).of ⟨rfl, rfl, rfl, trivial⟩
          exact .stop
        exact .stop
      refine .alt ?_ ?_
      · refine .call (first := []) (captured := []) rfl rfl rfl rfl rfl rfl (putsClone_fn (R := fun k => k < w.heap.size) ((Sl tPut).ext hwR ((N1.ext.trans N2.ext).mono (fun _ _ h => h.elim) |>.trans hX3) (by intro k hk _ he; have he : w2.heap.size ≤ k := he; omega)) hwl) (by rintro _ _ ⟨_, hx⟩; exact hX3.trans (hx.mono (fun _ _ h => h.elim))) ?_
        rintro r13 w13 ⟨O13, X13⟩
        have z13 := X13.size
        obtain ⟨a13, cap13, rfl, hc13⟩ := O13.val
        have hX13 : Ext (fun k => w2.heap.size ≤ k) _ _ := hX3.trans (X13.mono (fun _ _ h => h.elim))
        refine .alt ?_ ?_
        · refine .v rfl rfl rfl rfl (.make (eb := 1) rfl rfl rfl rfl rfl rfl rfl rfl (by omega)) (by rintro _ _ ⟨_, hN⟩; exact hX13.trans hN.ext0) ?_
          rintro _ w10 ⟨rfl, N10⟩
          have z10 := N10.size
          have hX10 : Ext (fun k => w2.heap.size ≤ k) _ _ := hX13.trans (N10.ext0)
          refine .p rfl rfl rfl rfl (fun wx hx => .build (cs := [i64 d.count, .slice (some ⟨w13.heap.size, 0, none⟩) d.data.length d.data.length, .slice a13 d.waits.length cap13]) rfl (fun _ => by kernel_rfl)) ?_
          refine .alt ?_ ?_
          · refine .s rfl rfl rfl (.storeAll (n := 3) (E := 46) (cs := [i64 0, .slice none 0 0, .slice none 0 0]) rfl rfl rfl rfl rfl (by first | exact N3.blk | exact N3.blk.ext N10.ext (fun x => x) | exact N3.blk.ext X13 (fun x => x) | exact (N3.blk.ext N10.ext (fun x => x)).ext X13 (fun x => x) | exact (N3.blk.ext X13 (fun x => x)).ext N10.ext (fun x => x)) rfl) (by intro wz hP; exact hX10.trans (hP.ext.mono (by rintro k _ rfl; show w2.heap.size ≤ _; omega))) ?_
            intro w11 P11
            have hXs11 : Ext (fun k => w2.heap.size ≤ k) _ _ := hX10.trans (P11.ext.mono (by rintro k _ rfl; show w2.heap.size ≤ _; omega))
            refine .nil ?_
            have hz11 := P11.size
            exact (meet (w13.heap.size, w2.heap.size, _, w11) ⟨P11.blk, (N10.blk).ext P11.ext (by show ¬ w13.heap.size = w2.heap.size; omega), (((O13.mono (fun k hk _ => hk) (fun k hk hlt => (⟨hk, hlt⟩ : w3.heap.size ≤ k ∧ k < w13.heap.size))).ext0 N10.ext).ext P11.ext (by rintro k ⟨h1, h2⟩ _ he; have he : k = w2.heap.size := he; omega) (by rintro k ⟨h1, h2⟩ _ he; have he : k = w2.heap.size := he; omega)).mono (fun k hk _ => hk.1) (by rintro k ⟨h1, h2⟩ h3; exact ⟨by show w2.heap.size ≤ k; omega, by show k < w11.heap.size; omega, by show k ≠ w2.heap.size; omega, by show k ≠ w13.heap.size; omega⟩), (Ext.refl w2).then hXs11 (fun k hk _ => hk), by show w2.heap.size ≠ w13.heap.size; omega, by show w2.heap.size ≤ w2.heap.size; omega, by show w2.heap.size ≤ w13.heap.size; omega, by show w2.heap.size < w11.heap.size; omega, by show w13.heap.size < w11.heap.size; omega⟩).of ⟨rfl, rfl, rfl, trivial⟩
          exact .stop
        exact .stop
      exact .stop
    exact .stop
end Go.Proofs.YthliepcjfnjnoaaGreatDoor
namespace Go.Proofs.YthliepcjfnjnoaaGreatDoor
open Go disk
namespace disk
def patch (l : Bs) (o : Nat) (x : Bs) : Bs := l.take o ++ x ++ l.drop (o + x.length)
theorem patch_length {l x : Bs} {o : Nat} (h : o + x.length ≤ l.length) : (patch l o x).length = l.length := by unfold patch; simp; omega
def settled (d : Disk) (keep : Nat → Bool) : Nat → Bs
  | 0 => d.data
  | k + 1 => match d.waits[k]? with | some p => if keep k then patch (settled d keep k) (p.sector.toNat * 128) p.data else settled d keep k | none => settled d keep k
theorem settled_step {d : Disk} {keep : Nat → Bool} {k : Nat} (h : k < d.waits.length) : settled d keep (k + 1) = if keep k then patch (settled d keep k) (d.waits[k].sector.toNat * 128) d.waits[k].data else settled d keep k := by
  rw [settled, List.getElem?_eq_getElem h]
theorem settled_length {d : Disk} (hc : checkF d = 0) (keep : Nat → Bool) : ∀ k, (settled d keep k).length = d.data.length
  | 0 => rfl
  | k + 1 => by
    rw [settled]
    split
    · rename_i p hp
      split
      · have ih := settled_length hc keep k
        obtain ⟨k1, k2, k3, k4, k5⟩ := check_ok hc
        have := k5 p (List.mem_of_getElem? hp)
        rw [patch_length (by rw [ih]; omega), ih]
      · exact settled_length hc keep k
    · exact settled_length hc keep k
theorem patch_cells {l x : Bs} {sp : List Value} {o dn : Nat} (h : o + x.length ≤ l.length) (hd : x.length ≤ dn) : (l.map u8 ++ sp).take o ++ (x.take (min x.length dn)).map u8 ++ (l.map u8 ++ sp).drop (o + min x.length dn) = (patch l o x).map u8 ++ sp := by
  rw [Nat.min_eq_left hd, List.take_length, List.take_append_of_le_length (by simp; omega), List.drop_append_of_le_length (by simp; omega)]
  unfold patch
  simp
def settleD (d : Disk) (keep : Nat → Bool) : Disk := ⟨d.count, settled d keep d.waits.length, []⟩
end disk
theorem all_fn {w : World} {i : Int} : Fn Tryz.prog 45 [i64 i] w (fun r w2 => r = .bool true ∧ Ext (fun _ => False) w w2) := by
  refine Fn.enter (fun w => Tryz.call45 _ w) Tryz.func45 rfl ?_
  refine .seq (.keep [] trivial (.region ?_))
  refine .p rfl rfl (.as rfl) ?_
  refine .nil (.code (.seq (.keep [] trivial (.region ?_))))
  refine .p rfl rfl (.as rfl) ?_
  refine .nil (.code ?_)
  refine .ret _ rfl ?_
  exact ⟨rfl, .refl _⟩
theorem settle_fn {w : World} {p f : Nat} {u u' : Value} {cap : List Value} {d : Disk} {P : Nat → Prop} {keep : Nat → Bool} (hB : Blk w p 46 [i64 d.count, u, u']) (hD : OwnD w (.agg #[i64 d.count, u, u']) d P) (hp : ¬ P p) (hc : checkF d = 0) (hk : ∀ (i : Nat) w', i < d.waits.length → Ext (fun k => k = p ∨ P k) w w' → Fn Tryz.prog f ([] ++ [i64 i] ++ cap) w' (fun r w2 => r = .bool (keep i) ∧ Ext (fun _ => False) w' w2)) : Fn Tryz.prog 44 [.pointer (some ⟨p, 0, none⟩), .func (.func f) #[] cap.toArray] w (fun r w2 => r = .tuple #[] ∧ ∃ u2, Blk w2 p 46 [i64 d.count, u2, .slice none 0 0] ∧ OwnD w2 (.agg #[i64 d.count, u2, .slice none 0 0]) (settleD d keep) P ∧ Ext (fun k => k = p ∨ P k) w w2) := by
  obtain ⟨v1, v2, bd, bw, Q, e, hcr, hO1, hO2, ⟨l1, l2, ne, p1, p2⟩, hq⟩ := hD
  simp at e
  obtain ⟨rfl, rfl⟩ := e
  obtain ⟨k1, k2, k3, k4, k5⟩ := check_ok hc
  have hlim := hO1.lim
  have hlimL := hlim
  simp only [Lim] at hlim
  obtain ⟨cap1, sp, rfl, hcap1, hBd, hcs⟩ := hO1.blk (fun e0 => by rw [e0] at k3; simp at k3; omega)
  have hW := Sl.imp (hO2.rep (Q' := fun k => k = bw ∨ (Q k ∧ k < w.heap.size)) (.inl rfl) (fun k a b => .inr ⟨a, b⟩)) (t' := tPut) (fun u x h => tPutO.weak h)
  obtain ⟨aw, capw, rfl, hcapw⟩ := Sl.val hW
  have hpd : ¬ p = bd := fun h => hp (h ▸ p1)
  have hnd : ∀ k, k = bw ∨ (Q k ∧ k < w.heap.size) → ¬ k = bd := by
    rintro k (rfl | ⟨h1, h2⟩) h3
    · exact ne h3.symm
    · exact (hq k h1 h2).2.1 h3
  have zw := hB.lt
  refine Fn.enter (fun w => Tryz.call44 _ w) Tryz.func44 rfl ?_
  refine .seq (.seq (.region ?_))
  refine .p rfl rfl (.mv rfl) ?_
  refine .p rfl rfl (.nilCheck rfl) ?_
  refine .p rfl rfl (.fieldAddr rfl rfl rfl rfl) ?_
  refine .p rfl rfl (.load rfl rfl rfl (hB.cell 2)) ?_
  refine .p rfl rfl (.len rfl rfl) ?_
  refine .p rfl rfl (.mv rfl) ?_
  refine .nil (.code (.block (.keep [(11, _), (10, _), (9, _), (0, _), (1, _)] ⟨rfl, rfl, rfl, rfl, rfl, trivial⟩ ?_)))
  refine .loop (S := Nat × World) (fun s => [(0, .pointer (some ⟨p, 0, none⟩)), (1, .func (.func f) #[] cap.toArray), (9, .slice aw d.waits.length capw), (10, i64 d.waits.length), (11, i64 s.1)]) (fun s => s.2) (fun s => s.1 ≤ d.waits.length ∧ Blk s.2 p 46 [i64 d.count, .slice (some ⟨bd, 0, none⟩) d.data.length cap1, .slice aw d.waits.length capw] ∧ Blk s.2 bd 5 ((settled d keep s.1).map u8 ++ sp) ∧ Ext (· = bd) w s.2) (fun s => d.waits.length - s.1) (0, w) ⟨rfl, rfl, rfl, rfl, rfl, trivial⟩ rfl ⟨Nat.zero_le _, hB, hBd, .refl _⟩ ?_
  rintro ⟨i, wi⟩ J ⟨hi', hBp, hBi, hXi⟩ again
  simp only at hi' hBp hBi hXi
  refine .seq (.region ?_)
  refine .p rfl rfl (.lt rfl rfl) ?_
  refine .nil (.code (.seq ?_))
  refine .condD rfl (fun c12 => ?_) (fun c12 => ?_)
  · have hil : i < d.waits.length := by omega
    obtain ⟨b1, o1, c1, ue, e, hQ, hcs1, hre⟩ := Sl.at hW (List.getElem?_eq_getElem hil)
    cases e
    obtain ⟨ud, rfl, hud, hs1, hs2⟩ := tPut.val hre
    obtain ⟨ad, capd, rfl, _⟩ := Sl.val hud
    have hcs' := hcs1.ext hXi (hnd b1 hQ)
    have hk5 := k5 _ (List.getElem_mem hil)
    obtain ⟨m, hm⟩ := Int.eq_ofNat_of_zero_le hk5.1
    have hsl := settled_length hc keep i
    have hm128 : m * 128 + 128 ≤ d.data.length := by omega
    have hv26 : cutV 1 (some ⟨bd, 0, none⟩) cap1 (d.waits[i].sector * 128).toNat d.data.length = .slice (some ⟨bd, m * 128, none⟩) (d.data.length - m * 128) (cap1 - m * 128) := by
      rw [show (d.waits[i].sector * 128).toNat = m * 128 by omega]
      unfold cutV
      rw [if_neg (by omega)]
      simp [add_none]
    refine .skip (.code (.seq (.block (.seq (.keep [(0, _), (1, _), (9, _), (10, _), (11, _)] ⟨rfl, rfl, rfl, rfl, rfl, trivial⟩ (.region ?_))))))
    refine .p rfl rfl (.mv rfl) ?_
    refine .p rfl rfl (.indexAddr (s := 2) rfl rfl rfl rfl (by omega)) ?_
    refine .p rfl rfl (.loadA (n := 2) rfl rfl rfl rfl rfl hcs') ?_
    refine .v rfl rfl (.alloc rfl rfl) ?_
    rintro _ w5 ⟨rfl, N5⟩
    refine .p rfl rfl (.as rfl) ?_
    refine .s rfl (.storeAll (n := 2) rfl rfl rfl rfl rfl N5.blk rfl) ?_
    intro w6 P6
    have X6 := N5.ext.then P6.ext (by rintro k rfl _; exact Nat.le_refl _)
    have z6 : w6.heap.size = wi.heap.size + 1 := by rw [P6.size, N5.size]
    have hXp : Ext (fun k => k = p ∨ P k) w w6 := (hXi.mono (by rintro k _ rfl; exact .inr p1)).trans (X6.mono (fun _ _ h => h.elim))
    refine .nil (.code (.seq (.keep [(4, _), (5, _), (0, _), (1, _), (9, _), (10, _), (11, _)] ⟨rfl, rfl, rfl, rfl, rfl, rfl, rfl, trivial⟩ (.region ?_))))
    refine .p rfl rfl (.mv rfl) ?_
    refine .p rfl rfl (.mv rfl) ?_
    refine .call (first := []) (captured := cap) rfl rfl rfl rfl (hk i w6 hil hXp) ?_
    rintro _ w18 ⟨rfl, X18⟩
    have B18 := (hBp.ext X6 (fun x => x)).ext X18 (fun x => x)
    have B5 := P6.blk.ext X18 (fun x => x)
    have D18 := (hBi.ext X6 (fun x => x)).ext X18 (fun x => x)
    have zi : w.heap.size ≤ wi.heap.size := hXi.size
    have Z18 : Ext (· = bd) w w18 := hXi.trans ((X6.trans X18).mono (fun _ _ h => h.elim))
    refine .nil (.code (.keep [(18, _), (5, _), (0, _), (1, _), (9, _), (10, _), (11, _)] ⟨rfl, rfl, rfl, rfl, rfl, rfl, rfl, trivial⟩ ?_))
    refine .cond rfl (fun c18 => ?_) (fun c18 => ?_)
    · refine .keep [(5, _), (0, _), (1, _), (9, _), (10, _), (11, _)] ⟨rfl, rfl, rfl, rfl, rfl, rfl, trivial⟩ (.mix ((· = bd)) [10] (by kernel_rfl) (by kernel_rfl) (by kernel_rfl) ?_)
      refine .p rfl rfl rfl (fun wx hx => .mv rfl) ?_
      refine .p rfl rfl rfl (fun wx hx => .nilCheck rfl) ?_
      refine .p rfl rfl rfl (fun wx hx => .fieldAddr rfl rfl rfl rfl) ?_
      refine .p rfl rfl rfl (fun wx hx => .load rfl rfl rfl ((B18.ext hx hpd).cell 1)) ?_
      refine .p rfl rfl rfl (fun wx hx => .fieldAddr rfl rfl rfl rfl) ?_
      refine .p rfl rfl rfl (fun wx hx => .load rfl rfl rfl ((B5.ext hx (by show ¬ wi.heap.size = bd; omega)).cell 0)) ?_
      refine .p rfl rfl rfl (fun wx hx => .mul rfl rfl (by omega)) ?_
      refine .p rfl rfl rfl (fun wx hx => .cast (.cutLo (s := 1) rfl rfl rfl rfl (by omega)) hv26) ?_
      refine .p rfl rfl rfl (fun wx hx => .fieldAddr rfl rfl rfl rfl) ?_
      refine .p rfl rfl rfl (fun wx hx => .load rfl rfl rfl ((B5.ext hx (by show ¬ wi.heap.size = bd; omega)).cell 1)) ?_
      refine .vL rfl rfl rfl (.copyB rfl D18 rfl (tBytes.ext hud Z18 (fun k h _ => hnd k h)) rfl rfl (by simp [hsl, hk5.2.2]; omega)) (by kernel_rfl) ?_
      rintro _ w29 ⟨rfl, P29⟩
      have D29 := P29.blk
      rw [patch_cells (by rw [hsl]; omega) (by omega)] at D29
      refine .nil (.blk (.code (.keep [(0, _), (1, _), (9, _), (10, _), (11, _)] ⟨rfl, rfl, rfl, rfl, rfl, trivial⟩ (.region ?_))))
      refine .p rfl rfl (.add rfl rfl (by omega)) ?_
      refine .p rfl rfl (.mv rfl) ?_
      refine .nil ?_
      exact (again (i + 1, w29) ⟨by show i + 1 ≤ _; omega, B18.ext P29.ext hpd, by rw [settled_step hil, if_pos c18, show d.waits[i].sector.toNat = m by omega]; exact D29, Z18.trans P29.ext⟩ (by show _ - (i + 1) < _ - i; omega)).of ⟨rfl, rfl, rfl, rfl, rfl, trivial⟩
    · refine .skip (.blk (.code (.keep [(0, _), (1, _), (9, _), (10, _), (11, _)] ⟨rfl, rfl, rfl, rfl, rfl, trivial⟩ (.region ?_))))
      refine .p rfl rfl (.add rfl rfl (by omega)) ?_
      refine .p rfl rfl (.mv rfl) ?_
      refine .nil ?_
      exact (again (i + 1, w18) ⟨by show i + 1 ≤ _; omega, B18, by rw [settled_step hil, if_neg (by simp [c18])]; exact D18, Z18⟩ (by show _ - (i + 1) < _ - i; omega)).of ⟨rfl, rfl, rfl, rfl, rfl, trivial⟩
  · obtain rfl : i = d.waits.length := by omega
    refine .exit rfl (.code (.keep [(0, _)] ⟨rfl, trivial⟩ (.region ?_)))
    refine .p rfl rfl (.mv rfl) ?_
    refine .p rfl rfl (.nilCheck rfl) ?_
    refine .p rfl rfl (.fieldAddr rfl rfl rfl rfl) ?_
    refine .s rfl (.store rfl rfl rfl rfl rfl hBp (by simp)) ?_
    intro w7 P7
    refine .nil ?_
    refine .fin _ rfl ?_
    have hsl := settled_length hc keep d.waits.length
    have z7 : w7.heap.size = wi.heap.size := P7.size
    have zi : w.heap.size ≤ wi.heap.size := hXi.size
    exact ⟨rfl, _, P7.blk, ⟨_, _, bd, bw, fun _ => False, rfl, hcr, Own.ofBlk (hBi.ext P7.ext (fun h => hpd h.symm)) (by show (settled d keep d.waits.length).length < Lim; rw [hsl]; exact hlimL) (by show d.data.length = (settled d keep d.waits.length).length; rw [hsl]) (by show (settled d keep d.waits.length).length + _ = _; rw [hsl]; exact hcs), Own.nil, ⟨by omega, by omega, ne, p1, p2⟩, fun k h _ => h.elim⟩, (hXi.mono (by rintro k _ rfl; exact .inr p1)).trans (P7.ext.mono (by rintro k _ rfl; exact .inl rfl))⟩
end Go.Proofs.YthliepcjfnjnoaaGreatDoor
namespace Go.Proofs.YthliepcjfnjnoaaGreatDoor
open Go disk
namespace disk
theorem OwnD.none {w : World} {P : Nat → Prop} {b1 b2 : Nat} (h1 : b1 < w.heap.size) (h2 : b2 < w.heap.size) (hne : b1 ≠ b2) (p1 : P b1) (p2 : P b2) : OwnD w (.agg #[i64 0, .slice none 0 0, .slice none 0 0]) nodisk P :=
  ⟨_, _, b1, b2, fun _ => False, rfl, by decide, Own.nil, Own.nil, ⟨h1, h2, hne, p1, p2⟩, fun k h _ => h.elim⟩
theorem OwnD.val {w : World} {v : Value} {d : Disk} {P : Nat → Prop} (h : OwnD w v d P) : ∃ a1 c1 a2 c2, v = .agg #[i64 d.count, .slice a1 d.data.length c1, .slice a2 d.waits.length c2] := by
  obtain ⟨u, u', bd, bw, Q, rfl, hr, h1, h2, _⟩ := h
  obtain ⟨a1, c1, rfl, _⟩ := h1.val
  obtain ⟨a2, c2, rfl, _⟩ := h2.val
  exact ⟨a1, c1, a2, c2, rfl⟩
def doN (count : Int) : List Act → Disk → Disk × Int
  | [], out => (out, 0)
  | a :: l, out =>
    if a.flush = true then doN count l (settleD out (fun _ => true))
    else if a.put.sector < 0 ∨ count ≤ a.put.sector then (nodisk, 21)
    else if ¬ (a.put.data.length : Int) = 128 then (nodisk, 8)
    else if 4096 ≤ out.waits.length then (nodisk, 4)
    else doN count l { out with waits := out.waits ++ [a.put] }
def doF (d : Disk) (l : List Act) : Disk × Int := if ¬ checkF d = 0 then (nodisk, checkF d) else doN d.count l d
theorem check_of {d : Disk} (h1 : 1 ≤ d.count) (h2 : d.count ≤ 4096) (h3 : (d.data.length : Int) = d.count * 128) (h4 : d.waits.length ≤ 4096) (h5 : ∀ p ∈ d.waits, 0 ≤ p.sector ∧ p.sector < d.count ∧ p.data.length = 128) : checkF d = 0 := by
  unfold checkF
  rw [if_neg (by omega), if_pos]
  rw [List.all_eq_true]
  intro p hp
  unfold okPut
  rw [decide_eq_true_eq]
  exact h5 p hp
theorem check_settle {d : Disk} (h : checkF d = 0) (keep : Nat → Bool) : checkF (settleD d keep) = 0 := by
  obtain ⟨k1, k2, k3, k4, k5⟩ := check_ok h
  exact check_of k1 k2 (by show ((settled d keep d.waits.length).length : Int) = _; rw [settled_length h]; exact k3) (by simp [settleD]) (by simp [settleD])
theorem check_put {d : Disk} {p : disk.Put} (h : checkF d = 0) (hl : d.waits.length < 4096) (hp : 0 ≤ p.sector ∧ p.sector < d.count ∧ p.data.length = 128) : checkF { d with waits := d.waits ++ [p] } = 0 := by
  obtain ⟨k1, k2, k3, k4, k5⟩ := check_ok h
  refine check_of k1 k2 k3 (by simp; omega) (fun q hq => ?_)
  simp at hq
  rcases hq with hq | rfl
  · exact k5 q hq
  · exact hp
end disk
theorem Do_fn {w : World} {v vl : Value} {d : Disk} {l : List disk.Act} (h : tDisk.rep All w v d) (hl : (Sl tAct).rep All w vl l) : Fn Tryz.prog 30 [v, vl] w (fun r w2 => ∃ v', r = .tuple #[v', i64 (doF d l).2] ∧ OwnD w2 v' (doF d l).1 (fun k => w.heap.size ≤ k) ∧ Ext (fun _ => False) w w2) := by
  obtain ⟨u, u', rfl, hd, hw, hc1, hc2⟩ := tDisk.val h
  obtain ⟨al, capl, rfl, hcapl⟩ := Sl.val hl
  have hlimA := Sl.lim hl
  simp only [Lim] at hlimA
  refine Fn.enter (fun w => Tryz.call30 _ w) Tryz.func30 rfl ?_
  refine .seq (.region ?_)
  refine .v rfl rfl (.box rfl) ?_
  rintro _ w2 ⟨rfl, N2⟩
  refine .v rfl rfl (.alloc rfl rfl) ?_
  rintro _ w4 ⟨rfl, N4⟩
  have B2 := N2.blk.ext N4.ext (fun x => x)
  have z2 : w2.heap.size = w.heap.size + 1 := N2.size
  have z4 : w4.heap.size = w2.heap.size + 1 := N4.size
  refine .p rfl rfl (.as rfl) ?_
  refine .nil (.code (.seq (.seq (.keep [(4, _), (2, _), (1, _)] ⟨rfl, rfl, rfl, trivial⟩ (.region ?_)))))
  refine .p rfl rfl (.loadA (n := 3) rfl rfl rfl rfl rfl B2.cells) ?_
  refine .call (first := []) (captured := []) rfl rfl rfl rfl (Check_fn (tDisk.ext0 h (N2.ext.trans N4.ext))) ?_
  rintro _ w12 ⟨rfl, X12⟩
  have hE := N4.blk.ext X12 (fun x => x)
  have z12 : w4.heap.size ≤ w12.heap.size := X12.size
  refine .p rfl rfl (.as rfl) ?_
  refine .nil (.code (.seq (.keep [(6, _), (4, _), (2, _), (1, _)] ⟨rfl, rfl, rfl, rfl, trivial⟩ (.region ?_))))
  refine .p rfl rfl (.mv rfl) ?_
  refine .p rfl rfl (.ne rfl rfl) ?_
  refine .nil (.code (.keep [(14, _), (6, _), (4, _), (2, _), (1, _)] ⟨rfl, rfl, rfl, rfl, rfl, trivial⟩ ?_))
  refine .condD rfl (fun c14 => ?_) (fun c14 => ?_)
  · refine .seq (.keep [(6, _), (4, _)] ⟨rfl, rfl, trivial⟩ (.region ?_))
    refine .p rfl rfl (.build (cs := [i64 0, .slice none 0 0, .slice none 0 0]) rfl (fun _ => by kernel_rfl)) ?_
    refine .p rfl rfl (.mv rfl) ?_
    refine .s rfl (.storeAll (n := 3) rfl rfl rfl rfl rfl hE rfl) ?_
    intro w15 P15
    have z15 := P15.size
    refine .p rfl rfl (.as rfl) ?_
    refine .nil (.code ?_)
    refine .retR (.cell (n := 3) rfl rfl rfl rfl rfl (P15.blk.cells) (.tmp rfl .nil)) ?_
    have e : doF d l = (nodisk, checkF d) := by unfold doF; rw [if_pos c14]
    rw [e]
    exact ⟨_, rfl, OwnD.none (b1 := w.heap.size) (b2 := w2.heap.size) (by omega) (by omega) (by omega) (Nat.le_refl _) (by show w.heap.size ≤ w2.heap.size; omega), (N2.ext.trans (N4.ext.trans X12)).then P15.ext (by rintro k rfl _; show w.heap.size ≤ w2.heap.size; omega)⟩
  · have hok : checkF d = 0 := Decidable.byContradiction c14
    obtain ⟨k1, k2, k3, k4, k5⟩ := check_ok hok
    refine .skip (.code (.seq (.keep [(4, _), (2, _), (1, _)] ⟨rfl, rfl, rfl, trivial⟩ (.region ?_))))
    refine .p rfl rfl (.loadA (n := 3) rfl rfl rfl rfl rfl (B2.ext X12 (fun x => x)).cells) ?_
    refine .call (first := []) (captured := []) rfl rfl rfl rfl (twin_fn (tDisk.ext0 h (N2.ext.trans (N4.ext.trans X12))) (by omega)) ?_
    rintro r18 w18 ⟨D18, X18⟩
    have z18 : w12.heap.size ≤ w18.heap.size := X18.size
    obtain ⟨a1, c1, a2, c2, rfl⟩ := D18.val
    refine .v rfl rfl (.alloc rfl rfl) ?_
    rintro _ w7 ⟨rfl, N7⟩
    have z7 : w7.heap.size = w18.heap.size + 1 := N7.size
    refine .s rfl (.storeAll (n := 3) rfl rfl rfl rfl rfl N7.blk rfl) ?_
    intro w19 P19
    have z19 : w19.heap.size = w7.heap.size := P19.size
    have X19 := N7.ext.then P19.ext (by rintro k rfl _; exact Nat.le_refl _)
    have D19 := (D18.mono (P' := fun k => w12.heap.size ≤ k ∧ k ≠ w18.heap.size) (fun k h1 h2 => ⟨h1, Nat.ne_of_lt h2⟩)).ext0 X19
    refine .nil (.code (.seq (.seq (.keep [(7, _), (4, _), (2, _), (1, _)] ⟨rfl, rfl, rfl, rfl, trivial⟩ (.region ?_)))))
    refine .p rfl rfl (.mv rfl) ?_
    refine .p rfl rfl (.len rfl rfl) ?_
    refine .p rfl rfl (.mv rfl) ?_
    refine .nil (.code (.block (.keep [(21, _), (20, _), (19, _), (7, _), (4, _), (2, _)] ⟨rfl, rfl, rfl, rfl, rfl, rfl, trivial⟩ ?_)))
    refine .loop (S := Nat × Disk × (Option Addr × Nat × Option Addr × Nat) × World) (fun s => [(2, .pointer (some ⟨w.heap.size, 0, none⟩)), (4, .pointer (some ⟨w2.heap.size, 0, none⟩)), (7, .pointer (some ⟨w18.heap.size, 0, none⟩)), (19, .slice al l.length capl), (20, i64 l.length), (21, i64 s.1)]) (fun s => s.2.2.2) (fun s => s.1 ≤ l.length ∧ Ext (fun _ => False) w12 s.2.2.2 ∧ doN d.count l d = doN d.count (l.drop s.1) s.2.1 ∧ checkF s.2.1 = 0 ∧ s.2.1.count = d.count ∧ Blk s.2.2.2 w18.heap.size 46 [i64 s.2.1.count, .slice s.2.2.1.1 s.2.1.data.length s.2.2.1.2.1, .slice s.2.2.1.2.2.1 s.2.1.waits.length s.2.2.1.2.2.2] ∧ OwnD s.2.2.2 (.agg #[i64 s.2.1.count, .slice s.2.2.1.1 s.2.1.data.length s.2.2.1.2.1, .slice s.2.2.1.2.2.1 s.2.1.waits.length s.2.2.1.2.2.2]) s.2.1 (fun k => w12.heap.size ≤ k ∧ k ≠ w18.heap.size)) (fun s => l.length - s.1) (0, d, (a1, c1, a2, c2), w19) ⟨rfl, rfl, rfl, rfl, rfl, rfl, trivial⟩ rfl ⟨Nat.zero_le _, X18.trans X19, rfl, hok, rfl, P19.blk, D19⟩ ?_
    rintro ⟨i, out, ⟨x1, y1, x2, y2⟩, wi⟩ J ⟨hi', hXi, hdo, hck, hcnt, hB, hD⟩ again
    simp only at hi' hXi hdo hck hcnt hB hD
    refine .seq (.region ?_)
    refine .p rfl rfl (.lt rfl rfl) ?_
    refine .nil (.code (.seq ?_))
    refine .condD rfl (fun c22 => ?_) (fun c22 => ?_)
    · have hil : i < l.length := by omega
      obtain ⟨ba, oa, ca, ue, e, _, hcs, hre⟩ := Sl.at hl (List.getElem?_eq_getElem hil)
      cases e
      obtain ⟨ud, rfl, hud, hs1, hs2⟩ := tAct.val hre
      obtain ⟨ad, capd, rfl, _⟩ := Sl.val hud
      have hcs' := hcs.ext (N2.ext.trans (N4.ext.trans (X12.trans hXi))) (fun x => x)
      have hdrop := List.drop_eq_getElem_cons hil
      refine .skip (.code (.seq (.block (.seq (.keep [(2, _), (4, _), (7, _), (19, _), (20, _), (21, _)] ⟨rfl, rfl, rfl, rfl, rfl, rfl, trivial⟩ (.region ?_))))))
      refine .p rfl rfl (.indexAddr (s := 3) rfl rfl rfl rfl (by omega)) ?_
      refine .p rfl rfl (.loadA (n := 3) rfl rfl rfl rfl rfl hcs') ?_
      refine .v rfl rfl (.alloc rfl rfl) ?_
      rintro _ w9 ⟨rfl, N9⟩
      have z9 : w9.heap.size = wi.heap.size + 1 := N9.size
      refine .s rfl (.storeAll (n := 3) rfl rfl rfl rfl rfl N9.blk rfl) ?_
      intro w20 P20
      have z20 : w20.heap.size = w9.heap.size := P20.size
      have X20 := N9.ext.then P20.ext (by rintro k rfl _; exact Nat.le_refl _)
      refine .nil (.code (.seq (.keep [(9, _), (2, _), (4, _), (7, _), (19, _), (20, _), (21, _)] ⟨rfl, rfl, rfl, rfl, rfl, rfl, rfl, trivial⟩ (.region ?_))))
      refine .p rfl rfl (.fieldAddr rfl rfl rfl rfl) ?_
      refine .p rfl rfl (.loadA (n := 2) rfl rfl rfl rfl rfl (P20.blk.cellsAt 1)) ?_
      refine .v rfl rfl (.alloc rfl rfl) ?_
      rintro _ w10 ⟨rfl, N10⟩
      have z10 : w10.heap.size = w20.heap.size + 1 := N10.size
      refine .s rfl (.storeAll (n := 2) rfl rfl rfl rfl rfl N10.blk rfl) ?_
      intro w21 P21
      have z21 : w21.heap.size = w10.heap.size := P21.size
      have X21 := X20.trans (N10.ext.then P21.ext (by rintro k rfl _; exact Nat.le_refl _))
      have Z21 := hXi.trans X21
      have B9 := (P20.blk.ext N10.ext (fun x => x)).ext P21.ext (by show ¬ wi.heap.size = w20.heap.size; omega)
      have B10 := P21.blk
      have hBp := hB.ext X21 (fun x => x)
      have hDp := hD.ext0 X21
      have hE := N4.blk.ext (X12.trans Z21) (fun x => x)
      have hB2 := B2.ext (X12.trans Z21) (fun x => x)
      have zz : w12.heap.size ≤ w21.heap.size := Z21.size
      refine .nil (.code (.block (.seq (.keep [(10, _), (9, _), (2, _), (4, _), (7, _), (19, _), (20, _), (21, _)] ⟨rfl, rfl, rfl, rfl, rfl, rfl, rfl, rfl, trivial⟩ (.region ?_)))))
      refine .p rfl rfl (.fieldAddr rfl rfl rfl rfl) ?_
      refine .p rfl rfl (.load rfl rfl rfl (B9.cell 0)) ?_
      refine .p rfl rfl (.as rfl) ?_
      refine .nil (.code (.keep [(38, _), (10, _), (2, _), (4, _), (7, _), (19, _), (20, _), (21, _)] ⟨rfl, rfl, rfl, rfl, rfl, rfl, rfl, rfl, trivial⟩ ?_))
      refine .cond rfl (fun c38 => ?_) (fun c38 => ?_)
      · refine .keep [(2, _), (4, _), (7, _), (19, _), (20, _), (21, _)] ⟨rfl, rfl, rfl, rfl, rfl, rfl, trivial⟩ (.region ?_)
        refine .call (first := []) (captured := []) rfl rfl rfl rfl (settle_fn (f := 45) (cap := []) (keep := fun _ => true) hBp hDp (fun h => h.2 rfl) hck (fun j w' _ _ => all_fn)) ?_
        rintro _ w41 ⟨rfl, u3, B41, D41, X41⟩
        refine .nil (.blk (.blk (.code (.keep [(2, _), (4, _), (7, _), (19, _), (20, _), (21, _)] ⟨rfl, rfl, rfl, rfl, rfl, rfl, trivial⟩ (.region ?_)))))
        refine .p rfl rfl (.add rfl rfl (by omega)) ?_
        refine .p rfl rfl (.mv rfl) ?_
        refine .nil ?_
        obtain ⟨e1, f1, e2, f2, e3⟩ := D41.val
        simp [settleD] at e3
        obtain ⟨rfl, rfl, rfl⟩ := e3
        exact (again (i + 1, settleD out (fun _ => true), (e1, f1, none, 0), w41) ⟨by show i + 1 ≤ _; omega, Z21.then X41 (by rintro k (rfl | h) _; exact z18; exact h.1), by rw [hdo, hdrop, doN, if_pos c38], check_settle hck _, hcnt, B41, D41⟩ (by show _ - (i + 1) < _ - i; omega)).of ⟨rfl, rfl, rfl, rfl, rfl, rfl, trivial⟩
      · refine .seq (.keep [(10, _), (2, _), (4, _), (7, _), (19, _), (20, _), (21, _)] ⟨rfl, rfl, rfl, rfl, rfl, rfl, rfl, trivial⟩ (.region ?_))
        refine .p rfl rfl (.fieldAddr rfl rfl rfl rfl) ?_
        refine .p rfl rfl (.load rfl rfl rfl (B10.cell 0)) ?_
        refine .p rfl rfl (.lt rfl rfl) ?_
        refine .p rfl rfl (.mv rfl) ?_
        refine .caseD 46 rfl (fun c46 => ?_) (fun c46 => ?_)
        · refine .skip rfl rfl ?_
          refine .skip rfl rfl ?_
          refine .skip rfl rfl ?_
          refine .skip rfl rfl ?_
          refine .skip rfl rfl ?_
          refine .p rfl rfl (.pickT rfl rfl) ?_
          refine .p rfl rfl (.as rfl) ?_
          refine .nil (.code (.keep [(42, _), (10, _), (2, _), (4, _), (7, _), (19, _), (20, _), (21, _)] ⟨rfl, rfl, rfl, rfl, rfl, rfl, rfl, rfl, trivial⟩ (.condT rfl (.seq (.keep [(4, _)] ⟨rfl, trivial⟩ (.region ?_))))))
          refine .p rfl rfl (.build (cs := [i64 0, .slice none 0 0, .slice none 0 0]) rfl (fun _ => by kernel_rfl)) ?_
          refine .s rfl (.storeAll (n := 3) rfl rfl rfl rfl rfl hE rfl) ?_
          intro w53 P53
          have z53 := P53.size
          refine .p rfl rfl (.as rfl) ?_
          refine .nil (.code ?_)
          refine .retR (.cell (n := 3) rfl rfl rfl rfl rfl (P53.blk.cells) (.tmp rfl .nil)) ?_
          have e : doF d l = (nodisk, 21) := by unfold doF; rw [if_neg (by simp [hok]), hdo, hdrop, doN, if_neg (by simp [c38]), if_pos (by omega)]
          rw [e]
          exact ⟨_, rfl, OwnD.none (b1 := w.heap.size) (b2 := w2.heap.size) (by omega) (by omega) (by omega) (Nat.le_refl _) (by show w.heap.size ≤ w2.heap.size; omega), (N2.ext.trans (N4.ext.trans (X12.trans Z21))).then P53.ext (by rintro k rfl _; show w.heap.size ≤ w2.heap.size; omega)⟩
        · refine .p rfl rfl (.fieldAddr rfl rfl rfl rfl) ?_
          refine .p rfl rfl (.load rfl rfl rfl (B10.cell 0)) ?_
          refine .p rfl rfl (.fieldAddr rfl rfl rfl rfl) ?_
          refine .p rfl rfl (.load rfl rfl rfl (hB2.cell 0)) ?_
          refine .p rfl rfl (.ge rfl rfl) ?_
          refine .p rfl rfl (.pickF rfl rfl) ?_
          refine .p rfl rfl (.as rfl) ?_
          refine .nil (.code (.keep [(42, _), (10, _), (2, _), (4, _), (7, _), (19, _), (20, _), (21, _)] ⟨rfl, rfl, rfl, rfl, rfl, rfl, rfl, rfl, trivial⟩ ?_))
          refine .condD rfl (fun c42 => ?_) (fun c42 => ?_)
          · refine .seq (.keep [(4, _)] ⟨rfl, trivial⟩ (.region ?_))
            refine .p rfl rfl (.build (cs := [i64 0, .slice none 0 0, .slice none 0 0]) rfl (fun _ => by kernel_rfl)) ?_
            refine .s rfl (.storeAll (n := 3) rfl rfl rfl rfl rfl hE rfl) ?_
            intro w53 P53
            have z53 := P53.size
            refine .p rfl rfl (.as rfl) ?_
            refine .nil (.code ?_)
            refine .retR (.cell (n := 3) rfl rfl rfl rfl rfl (P53.blk.cells) (.tmp rfl .nil)) ?_
            have e : doF d l = (nodisk, 21) := by unfold doF; rw [if_neg (by simp [hok]), hdo, hdrop, doN, if_neg (by simp [c38]), if_pos (by omega)]
            rw [e]
            exact ⟨_, rfl, OwnD.none (b1 := w.heap.size) (b2 := w2.heap.size) (by omega) (by omega) (by omega) (Nat.le_refl _) (by show w.heap.size ≤ w2.heap.size; omega), (N2.ext.trans (N4.ext.trans (X12.trans Z21))).then P53.ext (by rintro k rfl _; show w.heap.size ≤ w2.heap.size; omega)⟩
          · refine .seq (.keep [(10, _), (2, _), (4, _), (7, _), (19, _), (20, _), (21, _)] ⟨rfl, rfl, rfl, rfl, rfl, rfl, rfl, trivial⟩ (.region ?_))
            refine .p rfl rfl (.fieldAddr rfl rfl rfl rfl) ?_
            refine .p rfl rfl (.load rfl rfl rfl (B10.cell 1)) ?_
            refine .p rfl rfl (.len rfl rfl) ?_
            refine .p rfl rfl (.ne rfl rfl) ?_
            refine .p rfl rfl (.as rfl) ?_
            refine .nil (.code (.keep [(54, _), (10, _), (2, _), (4, _), (7, _), (19, _), (20, _), (21, _)] ⟨rfl, rfl, rfl, rfl, rfl, rfl, rfl, rfl, trivial⟩ ?_))
            refine .condD rfl (fun c54 => ?_) (fun c54 => ?_)
            · refine .seq (.keep [(4, _)] ⟨rfl, trivial⟩ (.region ?_))
              refine .p rfl rfl (.build (cs := [i64 0, .slice none 0 0, .slice none 0 0]) rfl (fun _ => by kernel_rfl)) ?_
              refine .s rfl (.storeAll (n := 3) rfl rfl rfl rfl rfl hE rfl) ?_
              intro w59 P59
              have z59 := P59.size
              refine .p rfl rfl (.as rfl) ?_
              refine .nil (.code ?_)
              refine .retR (.cell (n := 3) rfl rfl rfl rfl rfl (P59.blk.cells) (.tmp rfl .nil)) ?_
              have e : doF d l = (nodisk, 8) := by unfold doF; rw [if_neg (by simp [hok]), hdo, hdrop, doN, if_neg (by simp [c38]), if_neg (by omega), if_pos (by omega)]
              rw [e]
              exact ⟨_, rfl, OwnD.none (b1 := w.heap.size) (b2 := w2.heap.size) (by omega) (by omega) (by omega) (Nat.le_refl _) (by show w.heap.size ≤ w2.heap.size; omega), (N2.ext.trans (N4.ext.trans (X12.trans Z21))).then P59.ext (by rintro k rfl _; show w.heap.size ≤ w2.heap.size; omega)⟩
            · refine .seq (.keep [(10, _), (2, _), (4, _), (7, _), (19, _), (20, _), (21, _)] ⟨rfl, rfl, rfl, rfl, rfl, rfl, rfl, trivial⟩ (.region ?_))
              refine .p rfl rfl (.fieldAddr rfl rfl rfl rfl) ?_
              refine .p rfl rfl (.load rfl rfl rfl (hBp.cell 2)) ?_
              refine .p rfl rfl (.len rfl rfl) ?_
              refine .p rfl rfl (.ge rfl rfl) ?_
              refine .p rfl rfl (.as rfl) ?_
              refine .nil (.code (.keep [(60, _), (10, _), (2, _), (4, _), (7, _), (19, _), (20, _), (21, _)] ⟨rfl, rfl, rfl, rfl, rfl, rfl, rfl, rfl, trivial⟩ ?_))
              refine .condD rfl (fun c60 => ?_) (fun c60 => ?_)
              · refine .seq (.keep [(4, _)] ⟨rfl, trivial⟩ (.region ?_))
                refine .p rfl rfl (.build (cs := [i64 0, .slice none 0 0, .slice none 0 0]) rfl (fun _ => by kernel_rfl)) ?_
                refine .s rfl (.storeAll (n := 3) rfl rfl rfl rfl rfl hE rfl) ?_
                intro w65 P65
                have z65 := P65.size
                refine .p rfl rfl (.as rfl) ?_
                refine .nil (.code ?_)
                refine .retR (.cell (n := 3) rfl rfl rfl rfl rfl (P65.blk.cells) (.tmp rfl .nil)) ?_
                have e : doF d l = (nodisk, 4) := by unfold doF; rw [if_neg (by simp [hok]), hdo, hdrop, doN, if_neg (by simp [c38]), if_neg (by omega), if_neg (by omega), if_pos (by omega)]
                rw [e]
                exact ⟨_, rfl, OwnD.none (b1 := w.heap.size) (b2 := w2.heap.size) (by omega) (by omega) (by omega) (Nat.le_refl _) (by show w.heap.size ≤ w2.heap.size; omega), (N2.ext.trans (N4.ext.trans (X12.trans Z21))).then P65.ext (by rintro k rfl _; show w.heap.size ≤ w2.heap.size; omega)⟩
              · obtain ⟨v1, v2, bd, bw, Q, e, hcr, hO1, hO2, ⟨l1, l2, ne, p1, p2⟩, hq⟩ := hD
                simp at e
                obtain ⟨rfl, rfl⟩ := e
                have zB := hB.lt
                have zi21 : wi.heap.size ≤ w21.heap.size := X21.size
                have hwp : bw ≠ w18.heap.size := p2.2
                have hq2 : ∀ k, Q k → k < wi.heap.size → w12.heap.size ≤ k ∧ k ≠ w18.heap.size ∧ k ≠ bd ∧ k ≠ bw := fun k a b => ⟨(hq k a b).1.1, (hq k a b).1.2, (hq k a b).2⟩
                have hudz := tBytes.ext0 hud (N2.ext.trans (N4.ext.trans (X12.trans Z21)))
                refine .keep [(10, _), (2, _), (4, _), (7, _), (19, _), (20, _), (21, _)] ⟨rfl, rfl, rfl, rfl, rfl, rfl, rfl, trivial⟩ (.mix ((· = bw)) [6, 8, 9, 11] (by kernel_rfl) (by kernel_rfl) (by kernel_rfl) ?_)
                refine .p rfl rfl rfl (fun wx hx => .fieldAddr rfl rfl rfl rfl) ?_
                refine .p rfl rfl rfl (fun wx hx => .load rfl rfl rfl ((hBp.ext hx (fun h => hwp h.symm)).cell 2)) ?_
                refine .p rfl rfl rfl (fun wx hx => .fieldAddr rfl rfl rfl rfl) ?_
                refine .p rfl rfl rfl (fun wx hx => .load rfl rfl rfl ((B10.ext hx (by show ¬ w20.heap.size = bw; omega)).cell 0)) ?_
                refine .p rfl rfl rfl (fun wx hx => .fieldAddr rfl rfl rfl rfl) ?_
                refine .p rfl rfl rfl (fun wx hx => .load rfl rfl rfl ((B10.ext hx (by show ¬ w20.heap.size = bw; omega)).cell 1)) ?_
                refine .call (first := []) (captured := []) rfl rfl rfl rfl rfl (bytesClone_fn hudz) (by rintro _ _ ⟨_, _, _, hx⟩; exact hx.mono (fun _ _ h => h.elim)) ?_
                rintro r33 w33 ⟨b33, O33, hb33, X33⟩
                have z33 : w21.heap.size ≤ w33.heap.size := X33.size
                have hb33 : w21.heap.size ≤ b33 := hb33
                obtain ⟨a33, cap33, rfl, hc33⟩ := O33.val
                refine .p rfl rfl rfl (fun wx hx => .build (cs := [i64 (l[i].put.sector), .slice a33 (l[i].put.data.length) cap33]) rfl (fun _ => by kernel_rfl)) ?_
                refine .v rfl rfl rfl (.lits rfl rfl (fun _ => by kernel_rfl)) (by rintro _ _ ⟨_, hN⟩; exact (X33.mono (fun _ _ h => h.elim)).trans hN.ext0) ?_
                rintro _ w35 ⟨rfl, N35⟩
                have z35 : w35.heap.size = w33.heap.size + 1 := N35.size
                refine .v rfl rfl rfl (.append (t := tPutO) (Q := fun k => w12.heap.size ≤ k ∧ k ≠ w18.heap.size ∧ k ≠ bd ∧ k ≠ bw) (eb := 32) rfl ((hO2.mono hq2).ext0 (X21.trans (X33.trans N35.ext))) rfl (.inr (New.holds N35 (.cons (tPutO.mk (OwnB.of O33 ⟨by omega, by omega, by omega, by omega⟩) ⟨hs1, hs2⟩) .nil) rfl)) rfl rfl rfl rfl rfl rfl rfl (by simp; omega) (by simp [Lim]; omega) (fun k h _ => h.2.2.2)) (by rintro _ _ ⟨_, _, hx, _⟩; exact ((X33.trans N35.ext).mono (fun _ _ h => h.elim)).trans hx) ?_
                rintro r36 w36 ⟨b36, O36, X36, hb36⟩
                have l36 := O36.lt (by simp)
                have z36 : w35.heap.size ≤ w36.heap.size := X36.size
                obtain ⟨a36, cap36, rfl, hc36⟩ := O36.val
                have Xb : Ext (· = bw) w21 w36 := ((X33.trans N35.ext).mono (fun _ _ h => h.elim)).trans X36
                refine .p rfl rfl rfl (fun wx hx => .fieldAddr rfl rfl rfl rfl) ?_
                refine .sL rfl rfl (.store rfl rfl rfl rfl rfl (hBp.ext Xb (fun h => hwp h.symm)) (by simp)) (by kernel_rfl) ?_
                intro w37 P37
                have z37 : w37.heap.size = w36.heap.size := P37.size
                refine .nil (.blk (.blk (.code (.keep [(2, _), (4, _), (7, _), (19, _), (20, _), (21, _)] ⟨rfl, rfl, rfl, rfl, rfl, rfl, trivial⟩ (.region ?_)))))
                refine .p rfl rfl (.add rfl rfl (by omega)) ?_
                refine .p rfl rfl (.mv rfl) ?_
                refine .nil ?_
                refine (again (i + 1, { out with waits := out.waits ++ [l[i].put] }, (x1, y1, a36, cap36), w37) ⟨by show i + 1 ≤ _; omega, (Z21.then Xb (by rintro k rfl _; exact p2.1)).then P37.ext (by rintro k rfl _; exact z18), by rw [hdo, hdrop, doN, if_neg (by simp [c38]), if_neg (by omega), if_neg (by omega), if_neg (by omega)], check_put hck (by omega) ⟨by omega, by omega, by omega⟩, hcnt, ?_, ?_⟩ (by show _ - (i + 1) < _ - i; omega)).of ⟨rfl, rfl, rfl, rfl, rfl, rfl, trivial⟩
                · have B37 := P37.blk
                  simpa using B37
                · have hb36' : w12.heap.size ≤ b36 ∧ b36 ≠ w18.heap.size ∧ b36 ≠ bd := by rcases hb36 with rfl | rfl <;> refine ⟨?_, ?_, ?_⟩ <;> omega
                  have l36 : b36 < w36.heap.size := l36
                  have hO1' := (hO1.ext0 X21).ext Xb (fun h => ne h) (fun _ h _ => h.elim)
                  have hO1'' := hO1'.ext P37.ext p1.2 (fun _ h _ => h.elim)
                  have O37 := O36.ext P37.ext hb36'.2.1 (fun k h _ => h.1.2.1)
                  exact ⟨_, _, bd, b36, _, by simp, hcr, hO1'', O37, ⟨by show bd < w37.heap.size; omega, by show b36 < w37.heap.size; omega, fun h => hb36'.2.2 h.symm, p1, ⟨hb36'.1, hb36'.2.1⟩⟩, fun k h _ => ⟨⟨h.1.1, h.1.2.1⟩, h.1.2.2.1, h.2⟩⟩
    · obtain rfl : i = l.length := by omega
      refine .exit rfl (.code (.seq (.keep [(4, _), (7, _)] ⟨rfl, rfl, trivial⟩ (.region ?_))))
      refine .p rfl rfl (.loadA (n := 3) rfl rfl rfl rfl rfl hB.cells) ?_
      refine .s rfl (.storeAll (n := 3) rfl rfl rfl rfl rfl (N4.blk.ext (X12.trans hXi) (fun x => x)) rfl) ?_
      intro w67 P67
      have z67 : w67.heap.size = wi.heap.size := P67.size
      refine .p rfl rfl (.as rfl) ?_
      refine .nil (.code ?_)
      refine .retR (.cell (n := 3) rfl rfl rfl rfl rfl (P67.blk.cells) (.tmp rfl .nil)) ?_
      have e : doF d l = (out, 0) := by unfold doF; rw [if_neg (by simp [hok]), hdo, List.drop_length, doN]
      rw [e]
      exact ⟨_, rfl, (hD.ext P67.ext (fun k h _ he => by have h := h.1; have he : k = w2.heap.size := he; omega)).mono (fun k h _ => by have h := h.1; show w.heap.size ≤ k; omega), (N2.ext.trans (N4.ext.trans (X12.trans hXi))).then P67.ext (by rintro k rfl _; show w.heap.size ≤ w2.heap.size; omega)⟩
end Go.Proofs.YthliepcjfnjnoaaGreatDoor
namespace Go.Proofs.YthliepcjfnjnoaaGreatDoor
open Go
theorem bytesEqual_fn {w : World} {v u : Value} {l m : Bs} (hl : tBytes.rep All w v l) (hm : tBytes.rep All w u m) : Fn Tryz.prog 81 [v, u] w (fun r w2 => r = .bool (decide (l = m)) ∧ Ext (fun _ => False) w w2) := by
  refine Fn.enter (fun w => Tryz.call81 _ w) Tryz.func81 rfl ?_
  refine .seq (.region ?_)
  refine .p rfl rfl (.as rfl) ?_
  refine .nil (.code (.seq (.keep [(0, _), (1, _)] ⟨rfl, rfl, trivial⟩ (.region ?_))))
  refine .p rfl rfl (.mv rfl) ?_
  refine .p rfl rfl (.bytesStr rfl hl rfl rfl rfl) ?_
  refine .p rfl rfl (.mv rfl) ?_
  refine .p rfl rfl (.bytesStr rfl hm rfl rfl rfl) ?_
  refine .p rfl rfl (.eqS rfl rfl) ?_
  refine .p rfl rfl (.as rfl) ?_
  refine .nil (.code ?_)
  refine .ret _ rfl ?_
  exact ⟨rfl, .refl w⟩
end Go.Proofs.YthliepcjfnjnoaaGreatDoor
namespace Go.Proofs.YthliepcjfnjnoaaGreatDoor
open Go disk
namespace disk
theorem tAct.mk {P : Nat → Prop} {w : World} {a : Act} {u : Value} (h : tBytes.rep P w u a.put.data) (h1 : -9223372036854775808 ≤ a.put.sector ∧ a.put.sector ≤ 9223372036854775807) : tAct.rep P w (.agg #[.bool a.flush, i64 a.put.sector, u]) a := by
  refine ⟨.bool a.flush, .agg #[i64 a.put.sector, u], ?_, rfl, tPut.mk h h1⟩
  rfl
end disk
end Go.Proofs.YthliepcjfnjnoaaGreatDoor
namespace Go.Proofs.YthliepcjfnjnoaaGreatDoor
open Go disk
theorem Own.pick {α : Type} {t : Ty α} {Q : Nat → Prop} {E : TypeId} {w : World} {v : Value} {xs : List α} {b : Nat} (h : Own t Q E w v xs b) (b0 : Nat) : (Own t Q E w v xs b ∧ b < w.heap.size) ∨ ∀ Q', Own t Q' E w v xs b0 := by
  have h' := h
  obtain ⟨hl, ⟨rfl, rfl⟩ | ⟨cap, us, sp, rfl, hc, he, hB, hn⟩⟩ := h'
  · exact .inr (fun _ => Own.nil)
  · exact .inl ⟨h, hB.lt⟩
theorem OwnB.of' {w : World} {v : Value} {l : Bs} {b : Nat} {P : Nat → Prop} (h : Own tByte (fun _ => False) 5 w v l b) (hb : b < w.heap.size → P b) : tOwnB.rep P w v l := by
  have h' := h
  obtain ⟨hl, ⟨rfl, rfl⟩ | ⟨cap, us, sp, rfl, hc, he, hB, hn⟩⟩ := h'
  · exact .inl ⟨rfl, rfl⟩
  · exact .inr ⟨b, hb hB.lt, hB.lt, h⟩
namespace disk
end disk
end Go.Proofs.YthliepcjfnjnoaaGreatDoor
