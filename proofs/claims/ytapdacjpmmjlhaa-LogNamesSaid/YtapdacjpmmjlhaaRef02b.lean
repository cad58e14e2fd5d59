
/-
  The document's own disk: copies, writes, writes made sure, acts, comparing.
-/
import Derived.Test.YtapdacjpmmjlhaaRef02
set_option linter.unusedVariables false
set_option linter.unusedSimpArgs false
set_option maxRecDepth 20000
namespace Go.Proofs.Ytapdacjpmmjlhaa
open Go disk
theorem Own.pick {α : Type} {t : Ty α} {Q : Nat → Prop} {E : TypeId} {w : World} {v : Value} {xs : List α} {b : Nat} (h : Own t Q E w v xs b) (b0 : Nat) : (Own t Q E w v xs b ∧ b < w.heap.size) ∨ ∀ Q', Own t Q' E w v xs b0 := by
  have h' := h
  obtain ⟨hl, ⟨rfl, rfl⟩ | ⟨cap, us, sp, rfl, hc, he, hB, hn⟩⟩ := h'
  · exact .inr (fun _ => Own.nil)
  · exact .inl ⟨h, hB.lt⟩
theorem OwnB.of' {w : World} {v : Value} {l : Bs} {b : Nat} {P : Nat → Prop} (h : Own tByte (fun _ => False) 5 w v l b) (hb : b < w.heap.size → P b) : tOwnB.rep P w v l := by
  have h' := h
  obtain ⟨hl, ⟨rfl, rfl⟩ | ⟨cap, us, sp, rfl, hc, he, hB, hn⟩⟩ := h'
  · exact .inl ⟨rfl, rfl⟩
  · exact .inr ⟨b, hb hB.lt, hB.lt, h⟩
theorem refBytesA_fn {w : World} {v : Value} {l : Bs} {b0 : Nat} (h : tBytes.rep All w v l) (hb : b0 < w.heap.size) : Fn Try.prog 44 [v] w (fun r w2 => ∃ b, Own tByte (fun _ => False) 5 w2 r l b ∧ b < w2.heap.size ∧ (b = b0 ∨ w.heap.size ≤ b) ∧ Ext (fun _ => False) w w2) :=
  (refBytes_fn h).mono fun r w2 ⟨b, h1, h2, h3⟩ => by
    rcases h1.pick b0 with ⟨h4, h5⟩ | h4
    · exact ⟨b, h4, h5, .inr h2, h3⟩
    · exact ⟨b0, h4 _, Nat.lt_of_lt_of_le hb h3.size, .inl rfl, h3⟩
namespace disk
theorem patch_set {l x : Bs} {sp : List Value} {o k : Nat} (h : o + x.length ≤ l.length) (hk : k < x.length) : ((patch l o (x.take k)).map u8 ++ sp).set (o + k) (u8 x[k]) = (patch l o (x.take (k + 1))).map u8 ++ sp := by
  have e1 : patch l o (x.take k) = (l.take o ++ x.take k) ++ (l[o + k]'(by omega) :: l.drop (o + k + 1)) := by
    unfold patch
    rw [List.length_take, Nat.min_eq_left (by omega), List.drop_eq_getElem_cons (show o + k < l.length by omega)]
  have e2 : patch l o (x.take (k + 1)) = (l.take o ++ x.take k) ++ (x[k] :: l.drop (o + k + 1)) := by
    unfold patch
    rw [List.length_take, Nat.min_eq_left (by omega), List.take_succ_eq_append_getElem hk]
    simp only [List.append_assoc, List.singleton_append, Nat.add_assoc]
  have e3 : (l.take o ++ x.take k).length = o + k := by simp; omega
  rw [e1, e2]
  generalize l.take o ++ x.take k = A at e3
  rw [List.map_append, List.map_append, List.map_cons, List.map_cons, List.append_assoc, List.append_assoc, List.set_append_right _ _ (by rw [List.length_map]; omega), List.length_map, e3, Nat.sub_self, List.cons_append, List.cons_append, List.set_cons_zero]
theorem patch_none {l : Bs} {o : Nat} : patch l o [] = l := by unfold patch; simp
end disk
theorem refTwin_fn {w : World} {v : Value} {d : Disk} (h : tDisk.rep All w v d) (hwl : d.waits.length ≤ 100000) : Fn Try.prog 16 [v] w (fun r w2 => OwnD w2 r d (fun k => w.heap.size ≤ k) ∧ Ext (fun _ => False) w w2) := by
  obtain ⟨u, u', rfl, hd, hw, hc1, hc2⟩ := tDisk.val h
  obtain ⟨aw, capw, rfl, hcapw⟩ := Sl.val hw
  have hdR := tBytes.mono hd (P' := fun k => k < w.heap.size) (fun k _ hk => hk)
  refine Fn.enter (fun w => Try.call16 _ w) Try.func16 rfl ?_
  refine .seq (.region ?_)
  refine .v rfl rfl (.box rfl) ?_
  rintro _ w1 ⟨rfl, N1⟩
  refine .v rfl rfl (.alloc rfl rfl) ?_
  rintro _ w2 ⟨rfl, N2⟩
  have B1 := N1.blk.ext N2.ext (fun x => x)
  have z1 := N1.size
  have z2 := N2.size
  refine .nil (.code (.seq (.keep [(2, _), (1, _)] ⟨rfl, rfl, trivial⟩ ?_)))
  refine .meet (S := Nat × Nat × (Option Addr × Nat) × World) (fun s => [(3, .pointer (some ⟨s.1, 0, none⟩)), (1, .pointer (some ⟨w.heap.size, 0, none⟩)), (2, .pointer (some ⟨w1.heap.size, 0, none⟩))]) (fun s => s.2.2.2) (fun s => Blk s.2.2.2 s.1 36 [i64 d.count, .slice s.2.2.1.1 d.data.length s.2.2.1.2, .slice none 0 0] ∧ Own tByte (fun _ => False) 5 s.2.2.2 (.slice s.2.2.1.1 d.data.length s.2.2.1.2) d.data s.2.1 ∧ Ext (fun _ => False) w2 s.2.2.2 ∧ s.2.1 ≠ s.1 ∧ s.2.1 ≠ w1.heap.size ∧ w.heap.size ≤ s.2.1 ∧ s.2.1 < s.2.2.2.heap.size ∧ w2.heap.size ≤ s.1 ∧ s.1 < s.2.2.2.heap.size) ?_ ?_
  · rintro ⟨p, bd, ⟨a9, cap9⟩, wm⟩ ⟨hBp0, hO0, hX, hne, hn1, hbw, hbl, hp, hpl⟩
    simp only at hBp0 hO0 hX hne hn1 hbw hbl hp hpl
    change A _ _ _ wm
    refine .code (.seq (.seq (.region ?_)))
    refine .p rfl rfl (.as rfl) ?_
    refine .nil (.code (.block ?_))
    refine .loop (S := Nat × (Option Addr × Nat) × World) (fun s => [(1, .pointer (some ⟨w.heap.size, 0, none⟩)), (2, .pointer (some ⟨w1.heap.size, 0, none⟩)), (3, .pointer (some ⟨p, 0, none⟩)), (4, i64 s.1)]) (fun s => s.2.2) (fun s => s.1 ≤ d.waits.length ∧ Ext (fun _ => False) w2 s.2.2 ∧ Blk s.2.2 p 36 [i64 d.count, .slice a9 d.data.length cap9, .slice s.2.1.1 s.1 s.2.1.2] ∧ Own tByte (fun _ => False) 5 s.2.2 (.slice a9 d.data.length cap9) d.data bd ∧ wm.heap.size ≤ s.2.2.heap.size ∧ ((s.1 = 0 ∧ s.2.1.1 = none ∧ s.2.1.2 = 0) ∨ ∃ b, b < s.2.2.heap.size ∧ w2.heap.size ≤ b ∧ b ≠ p ∧ b ≠ bd ∧ Own tPutO (fun k => w2.heap.size ≤ k ∧ k ≠ p ∧ k ≠ bd ∧ k ≠ b) 62 s.2.2 (.slice s.2.1.1 s.1 s.2.1.2) (d.waits.take s.1) b)) (fun s => d.waits.length - s.1) (0, (none, 0), wm) ⟨rfl, rfl, rfl, rfl, trivial⟩ rfl ⟨Nat.zero_le _, hX, hBp0, hO0, Nat.le_refl _, .inl ⟨rfl, rfl, rfl⟩⟩ ?_
    rintro ⟨i, ⟨x2, y2⟩, wi⟩ J ⟨hi', hXi, hBp, hOd, hzi, hT⟩ again
    simp only at hi' hXi hBp hOd hzi hT
    have B1i := B1.ext hXi (fun x => x)
    have zi : w2.heap.size ≤ wi.heap.size := hXi.size
    change G _ _ _ _ wi
    refine .seq (.seq (.region ?_))
    refine .p rfl rfl (.mv rfl) ?_
    refine .p rfl rfl (.fieldAddr rfl rfl rfl rfl) ?_
    refine .p rfl rfl (.load rfl rfl rfl (B1i.cell 2)) ?_
    refine .p rfl rfl (.len rfl rfl) ?_
    refine .p rfl rfl (.lt rfl rfl) ?_
    refine .nil (.code (.keep [(15, _), (1, _), (2, _), (3, _), (4, _)] ⟨rfl, rfl, rfl, rfl, rfl, trivial⟩ ?_))
    refine .condD rfl (fun c15 => ?_) (fun c15 => ?_)
    · have hil : i < d.waits.length := by omega
      obtain ⟨ba, oa, ca, ue, e, hQa, hcs, hre⟩ := Sl.at ((Sl tPut).mono hw (P' := fun k => k < w.heap.size) (fun k _ hk => hk)) (List.getElem?_eq_getElem hil)
      cases e
      obtain ⟨ud, rfl, hud, hs1, hs2⟩ := tPut.val hre
      obtain ⟨ad, capd, rfl, _⟩ := Sl.val hud
      have hcs' := hcs.ext (N1.ext.trans (N2.ext.trans hXi)) (fun x => x)
      have hudi := tBytes.ext0 hud (N1.ext.trans (N2.ext.trans hXi))
      refine .skip (.code (.seq (.block (.keep [(1, _), (2, _), (3, _), (4, _)] ⟨rfl, rfl, rfl, rfl, trivial⟩ (.mix (fun k => w2.heap.size ≤ k ∧ k ≠ p) [14, 16, 17, 19] (by kernel_rfl) (by kernel_rfl) (by kernel_rfl) ?_)))))
      refine .p rfl rfl rfl (fun wx hx => .fieldAddr rfl rfl rfl rfl) ?_
      refine .p rfl rfl rfl (fun wx hx => .load rfl rfl rfl ((hBp.ext hx (fun h => h.2 rfl)).cell 2)) ?_
      refine .p rfl rfl rfl (fun wx hx => .fieldAddr rfl rfl rfl rfl) ?_
      refine .p rfl rfl rfl (fun wx hx => .load rfl rfl rfl ((B1i.ext hx (fun h => by have h : w2.heap.size ≤ w.heap.size := h.1; omega)).cell 2)) ?_
      refine .p rfl rfl rfl (fun wx hx => .mv rfl) ?_
      refine .p rfl rfl rfl (fun wx hx => .indexAddr (s := 2) rfl rfl rfl rfl (by omega)) ?_
      refine .p rfl rfl rfl (fun wx hx => .fieldAddr rfl rfl rfl rfl) ?_
      refine .p rfl rfl rfl (fun wx hx => .load rfl rfl rfl ((hcs'.ext hx (fun h => by have h := h.1; omega)) 0 _ rfl)) ?_
      refine .p rfl rfl rfl (fun wx hx => .fieldAddr rfl rfl rfl rfl) ?_
      refine .p rfl rfl rfl (fun wx hx => .load rfl rfl rfl ((B1i.ext hx (fun h => by have h : w2.heap.size ≤ w.heap.size := h.1; omega)).cell 2)) ?_
      refine .p rfl rfl rfl (fun wx hx => .mv rfl) ?_
      refine .p rfl rfl rfl (fun wx hx => .indexAddr (s := 2) rfl rfl rfl rfl (by omega)) ?_
      refine .p rfl rfl rfl (fun wx hx => .fieldAddr rfl rfl rfl rfl) ?_
      refine .p rfl rfl rfl (fun wx hx => .load rfl rfl rfl ((hcs'.ext hx (fun h => by have h := h.1; omega)) 1 _ rfl)) ?_
      refine .call (first := []) (captured := []) rfl rfl rfl rfl rfl (refBytes_fn (allOf hudi)) (by rintro _ _ ⟨_, _, _, hx⟩; exact hx.mono (fun _ _ h => h.elim)) ?_
      rintro r32 w32 ⟨b32, O32, hb32, X32⟩
      have z32 : wi.heap.size ≤ w32.heap.size := X32.size
      have hb32 : wi.heap.size ≤ b32 := hb32
      obtain ⟨a32, cap32, rfl, hc32⟩ := O32.val
      refine .p rfl rfl rfl (fun wx hx => .build (cs := [i64 (d.waits[i].sector), .slice a32 (d.waits[i].data.length) cap32]) rfl (fun _ => by kernel_rfl)) ?_
      refine .v rfl rfl rfl (.lits rfl rfl (fun _ => by kernel_rfl)) (by rintro _ _ ⟨_, hN⟩; exact (X32.mono (fun _ _ h => h.elim)).trans hN.ext0) ?_
      rintro _ w34 ⟨rfl, N34⟩
      have z34 : w34.heap.size = w32.heap.size + 1 := N34.size
      have X34 := X32.trans N34.ext
      obtain ⟨b, hOb, hb⟩ : ∃ b, Own tPutO (fun k => w2.heap.size ≤ k ∧ k ≠ p ∧ k ≠ bd ∧ k ≠ b) 62 w34 (.slice x2 i y2) (d.waits.take i) b ∧ (b = w34.heap.size ∨ (b < wi.heap.size ∧ w2.heap.size ≤ b ∧ b ≠ p ∧ b ≠ bd)) := by
        rcases hT with ⟨rfl, rfl, rfl⟩ | ⟨b, h1, h2, h3, h4, h5⟩
        · exact ⟨w34.heap.size, Own.nil, .inl rfl⟩
        · exact ⟨b, h5.ext0 X34, .inr ⟨h1, h2, h3, h4⟩⟩
      have htl : (d.waits.take i).length = i := by simp; omega
      refine .v rfl rfl rfl (.append (t := tPutO) (Q := fun k => w2.heap.size ≤ k ∧ k ≠ p ∧ k ≠ bd ∧ k ≠ b) (eb := 32) rfl hOb rfl (.inr (New.holds N34 (.cons (tPutO.mk (OwnB.of' O32 (fun hlt => by rcases hb with hb | hb <;> refine ⟨?_, ?_, ?_, ?_⟩ <;> omega)) ⟨hs1, hs2⟩) .nil) rfl)) rfl rfl rfl rfl rfl rfl rfl (by simp; omega) (by simp [Lim]; omega) (fun k h _ => h.2.2.2)) (by rintro _ _ ⟨_, _, hx, _⟩; exact (X34.mono (fun _ _ h => h.elim)).trans (hx.mono (by rintro k hk rfl; rcases hb with hb | hb <;> refine ⟨?_, ?_⟩ <;> omega))) ?_
      rintro r35 w35 ⟨b35, O35, X35, hb35⟩
      have z35 : w34.heap.size ≤ w35.heap.size := X35.size
      have l35 : b35 < w35.heap.size := O35.lt (List.append_ne_nil_of_right_ne_nil _ (List.cons_ne_nil _ _))
      rw [← List.take_succ_eq_append_getElem hil] at O35
      obtain ⟨a35, cap35, rfl, hc35⟩ := O35.val
      have htl2 : (d.waits.take (i + 1)).length = i + 1 := by simp; omega
      rw [htl2] at O35 hc35
      have Xb : Ext (fun k => k = b) wi w35 := (X34.mono (fun _ _ h => h.elim)).trans X35
      refine .p rfl rfl rfl (fun wx hx => .fieldAddr rfl rfl rfl rfl) ?_
      refine .sL rfl rfl (.store rfl rfl rfl rfl rfl (hBp.ext Xb (fun h => by have h : p = b := h; omega)) (by simp)) (by kernel_rfl) ?_
      intro w37 P37
      have z37 : w37.heap.size = w35.heap.size := P37.size
      refine .nil (.blk (.code (.keep [(1, _), (2, _), (3, _), (4, _)] ⟨rfl, rfl, rfl, rfl, trivial⟩ (.region ?_))))
      refine .p rfl rfl (.mv rfl) ?_
      refine .p rfl rfl (.add rfl rfl (by omega)) ?_
      refine .p rfl rfl (.as rfl) ?_
      refine .nil ?_
      have hb35' : w2.heap.size ≤ b35 ∧ b35 ≠ p ∧ b35 ≠ bd := by rcases hb35 with rfl | rfl <;> rcases hb with hb | hb <;> refine ⟨?_, ?_, ?_⟩ <;> omega
      refine (again (i + 1, (a35, cap35), w37) ⟨by show i + 1 ≤ _; omega, (hXi.then Xb (by rintro k hk _; have hk : k = b := hk; omega)).then P37.ext (by rintro k rfl _; exact hp), ?_, ?_, by show wm.heap.size ≤ w37.heap.size; omega, .inr ⟨b35, by show b35 < w37.heap.size; omega, hb35'.1, hb35'.2.1, hb35'.2.2, (O35.mono (Q' := fun k => w2.heap.size ≤ k ∧ k ≠ p ∧ k ≠ bd ∧ k ≠ b35) (fun k h _ => ⟨h.1.1, h.1.2.1, h.1.2.2.1, h.2⟩)).ext P37.ext hb35'.2.1 (fun k h _ => h.2.1)⟩⟩ (by show _ - (i + 1) < _ - i; omega)).of ⟨rfl, rfl, rfl, rfl, trivial⟩
      · have B37 := P37.blk
        rw [htl2] at B37
        exact B37
      · exact (hOd.ext Xb (by rcases hb with hb | hb <;> omega) (fun _ h _ => h.elim)).ext P37.ext hne (fun _ h _ => h.elim)
    · obtain rfl : i = d.waits.length := by omega
      rw [List.take_length] at hT
      refine .exit rfl (.code (.seq (.keep [(2, _), (3, _)] ⟨rfl, rfl, trivial⟩ (.region ?_))))
      refine .p rfl rfl (.loadA (n := 3) rfl rfl rfl rfl rfl hBp.cells) ?_
      refine .s rfl (.storeAll (n := 3) rfl rfl rfl rfl rfl (N2.blk.ext hXi (fun x => x)) rfl) ?_
      intro w40 P40
      have z40 : w40.heap.size = wi.heap.size := P40.size
      refine .nil (.code ?_)
      refine .retR (.cell (n := 3) rfl rfl rfl rfl rfl (P40.blk.cells) .nil) ?_
      have D40 := hOd.ext P40.ext hn1 (fun _ h _ => h.elim)
      refine ⟨?_, (N1.ext.trans (N2.ext.trans hXi)).then P40.ext (by rintro k rfl _; show w.heap.size ≤ w1.heap.size; omega)⟩
      rcases hT with ⟨h0, rfl, rfl⟩ | ⟨b, h1, h2, h3, h4, h5⟩
      · have hn0 := List.length_eq_zero_iff.1 h0
        exact ⟨_, _, bd, p, fun _ => False, rfl, ⟨hc1, hc2⟩, D40, by rw [hn0]; exact Own.nil, ⟨by omega, by omega, hne, hbw, by show w.heap.size ≤ p; omega⟩, fun k h _ => h.elim⟩
      · exact ⟨_, _, bd, b, fun k => w2.heap.size ≤ k ∧ k ≠ p ∧ k ≠ bd ∧ k ≠ b, rfl, ⟨hc1, hc2⟩, D40, h5.ext P40.ext (by show ¬ b = w1.heap.size; omega) (fun k h _ he => by have h := h.1; have he : k = w1.heap.size := he; omega), ⟨by omega, by omega, fun he => h4 he.symm, hbw, by show w.heap.size ≤ b; omega⟩, fun k h _ => ⟨by have h := h.1; show w.heap.size ≤ k; omega, h.2.2.1, h.2.2.2⟩⟩
  · intro meet
    refine .tree (fun k => w2.heap.size ≤ k) [4, 6, 7] (.op 0 (.op 1 (.op 2 (.op 3 (.alt 4 (.op 4 (.op 5 (.alt 6 (.op 6 (.alt 7 (.op 7 (.nil)) (.stop))) (.stop)))) (.alt 6 (.op 6 (.alt 4 (.op 4 (.op 5 (.alt 7 (.op 7 (.nil)) (.stop)))) (.stop))) (.stop))))))) (by kernel_rfl) (by kernel_rfl) (by kernel_rfl) ?_
    refine .p rfl rfl rfl rfl (fun wx hx => .fieldAddr rfl rfl rfl rfl) ?_
    refine .p rfl rfl rfl rfl (fun wx hx => .load rfl rfl rfl ((B1.ext hx (by show ¬ (w2.heap.size ≤ w.heap.size); omega)).cell 0)) ?_
    refine .p rfl rfl rfl rfl (fun wx hx => .fieldAddr rfl rfl rfl rfl) ?_
    refine .p rfl rfl rfl rfl (fun wx hx => .load rfl rfl rfl ((B1.ext hx (by show ¬ (w2.heap.size ≤ w.heap.size); omega)).cell 1)) ?_
    refine .alt ?_ ?_
    · refine .call (first := []) (captured := []) rfl rfl rfl rfl rfl rfl (refBytesA_fn (b0 := w.heap.size) (allOf (tBytes.ext hdR ((N1.ext.trans N2.ext).mono (fun _ _ h => h.elim) |>.trans (Ext.refl _)) (by intro k hk _ he; have he : w2.heap.size ≤ k := he; omega))) (by omega)) (by rintro _ _ ⟨_, _, _, _, hx⟩; exact (Ext.refl _).trans (hx.mono (fun _ _ h => h.elim))) ?_
      rintro r9 w9 ⟨bd, O9, hl9, hb9, X9⟩
      have z9 := X9.size
      obtain ⟨a9, cap9, rfl, hc9⟩ := O9.val
      have hX9 : Ext (fun k => w2.heap.size ≤ k) _ _ := (Ext.refl _).trans (X9.mono (fun _ _ h => h.elim))
      refine .p rfl rfl rfl rfl (fun wx hx => .build (cs := [i64 d.count, .slice a9 d.data.length cap9, .slice none 0 0]) rfl (fun _ => by kernel_rfl)) ?_
      refine .alt ?_ ?_
      · refine .v rfl rfl rfl rfl (.alloc rfl rfl) (by rintro _ _ ⟨_, hN⟩; exact hX9.trans hN.ext0) ?_
        rintro _ w3 ⟨rfl, N3⟩
        have z3 := N3.size
        have hX3 : Ext (fun k => w2.heap.size ≤ k) _ _ := hX9.trans (N3.ext0)
        refine .alt ?_ ?_
        · refine .s rfl rfl rfl (.storeAll (n := 3) (E := 36) (cs := [i64 0, .slice none 0 0, .slice none 0 0]) rfl rfl rfl rfl rfl (by first | exact N3.blk | exact N3.blk.ext X9 (fun x => x)) rfl) (by intro wz hP; exact hX3.trans (hP.ext.mono (by rintro k _ rfl; show w2.heap.size ≤ _; omega))) ?_
          intro w7 P7
          have hXs7 : Ext (fun k => w2.heap.size ≤ k) _ _ := hX3.trans (P7.ext.mono (by rintro k _ rfl; show w2.heap.size ≤ _; omega))
          refine .nil ?_
          have hz7 := P7.size
          exact (meet (w9.heap.size, bd, (a9, cap9), w7) ⟨P7.blk, (O9.ext0 N3.ext).ext P7.ext (by show ¬ bd = w9.heap.size; omega) (fun _ h _ => h.elim), (Ext.refl w2).then hXs7 (fun k hk _ => hk), by show bd ≠ w9.heap.size; omega, by show bd ≠ w1.heap.size; omega, by show w.heap.size ≤ bd; omega, by show bd < w7.heap.size; omega, by show w2.heap.size ≤ w9.heap.size; omega, by show w9.heap.size < w7.heap.size; omega⟩).of ⟨rfl, rfl, rfl, trivial⟩
        exact .stop
      exact .stop
    refine .alt ?_ ?_
    · refine .v rfl rfl rfl rfl (.alloc rfl rfl) (by rintro _ _ ⟨_, hN⟩; exact (Ext.refl _).trans hN.ext0) ?_
      rintro _ w3 ⟨rfl, N3⟩
      have z3 := N3.size
      have hX3 : Ext (fun k => w2.heap.size ≤ k) _ _ := (Ext.refl _).trans (N3.ext0)
      refine .alt ?_ ?_
      · refine .call (first := []) (captured := []) rfl rfl rfl rfl rfl rfl (refBytesA_fn (b0 := w.heap.size) (allOf (tBytes.ext hdR ((N1.ext.trans N2.ext).mono (fun _ _ h => h.elim) |>.trans hX3) (by intro k hk _ he; have he : w2.heap.size ≤ k := he; omega))) (by omega)) (by rintro _ _ ⟨_, _, _, _, hx⟩; exact hX3.trans (hx.mono (fun _ _ h => h.elim))) ?_
        rintro r9 w9 ⟨bd, O9, hl9, hb9, X9⟩
        have z9 := X9.size
        obtain ⟨a9, cap9, rfl, hc9⟩ := O9.val
        have hX9 : Ext (fun k => w2.heap.size ≤ k) _ _ := hX3.trans (X9.mono (fun _ _ h => h.elim))
        refine .p rfl rfl rfl rfl (fun wx hx => .build (cs := [i64 d.count, .slice a9 d.data.length cap9, .slice none 0 0]) rfl (fun _ => by kernel_rfl)) ?_
        refine .alt ?_ ?_
        · refine .s rfl rfl rfl (.storeAll (n := 3) (E := 36) (cs := [i64 0, .slice none 0 0, .slice none 0 0]) rfl rfl rfl rfl rfl (by first | exact N3.blk | exact N3.blk.ext X9 (fun x => x)) rfl) (by intro wz hP; exact hX9.trans (hP.ext.mono (by rintro k _ rfl; show w2.heap.size ≤ _; omega))) ?_
          intro w7 P7
          have hXs7 : Ext (fun k => w2.heap.size ≤ k) _ _ := hX9.trans (P7.ext.mono (by rintro k _ rfl; show w2.heap.size ≤ _; omega))
          refine .nil ?_
          have hz7 := P7.size
          exact (meet (w2.heap.size, bd, (a9, cap9), w7) ⟨P7.blk, O9.ext P7.ext (by show ¬ bd = w2.heap.size; omega) (fun _ h _ => h.elim), (Ext.refl w2).then hXs7 (fun k hk _ => hk), by show bd ≠ w2.heap.size; omega, by show bd ≠ w1.heap.size; omega, by show w.heap.size ≤ bd; omega, by show bd < w7.heap.size; omega, by show w2.heap.size ≤ w2.heap.size; omega, by show w2.heap.size < w7.heap.size; omega⟩).of ⟨rfl, rfl, rfl, trivial⟩
        exact .stop
      exact .stop
    exact .stop
end Go.Proofs.Ytapdacjpmmjlhaa
