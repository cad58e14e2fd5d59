
/-
  Package disk: writes made sure; a loss of power; acts.
-/
import Derived.Test.YtapdacjpmmjlhaaDisk2
set_option linter.unusedVariables false
set_option linter.unusedSimpArgs false
set_option maxRecDepth 20000
namespace Go.Proofs.Ytapdacjpmmjlhaa
open Go disk
namespace disk
/-- bytes with others put over them, from o on -/
def patch (l : Bs) (o : Nat) (x : Bs) : Bs := l.take o ++ x ++ l.drop (o + x.length)
theorem patch_length {l x : Bs} {o : Nat} (h : o + x.length ≤ l.length) : (patch l o x).length = l.length := by unfold patch; simp; omega
/-- the bytes of a disk, the first writes that are kept made sure -/
def settled (d : Disk) (keep : Nat → Bool) : Nat → Bs
  | 0 => d.data
  | k + 1 => match d.waits[k]? with | some p => if keep k then patch (settled d keep k) (p.sector.toNat * 128) p.data else settled d keep k | none => settled d keep k
theorem settled_step {d : Disk} {keep : Nat → Bool} {k : Nat} (h : k < d.waits.length) : settled d keep (k + 1) = if keep k then patch (settled d keep k) (d.waits[k].sector.toNat * 128) d.waits[k].data else settled d keep k := by
  rw [settled, List.getElem?_eq_getElem h]
theorem settled_length {d : Disk} (hc : checkF d = 0) (keep : Nat → Bool) : ∀ k, (settled d keep k).length = d.data.length
  | 0 => rfl
  | k + 1 => by
    rw [settled]
    split
    · rename_i p hp
      split
      · have ih := settled_length hc keep k
        obtain ⟨k1, k2, k3, k4, k5⟩ := check_ok hc
        have := k5 p (List.mem_of_getElem? hp)
        rw [patch_length (by rw [ih]; omega), ih]
      · exact settled_length hc keep k
    · exact settled_length hc keep k
theorem patch_cells {l x : Bs} {sp : List Value} {o dn : Nat} (h : o + x.length ≤ l.length) (hd : x.length ≤ dn) : (l.map u8 ++ sp).take o ++ (x.take (min x.length dn)).map u8 ++ (l.map u8 ++ sp).drop (o + min x.length dn) = (patch l o x).map u8 ++ sp := by
  rw [Nat.min_eq_left hd, List.take_length, List.take_append_of_le_length (by simp; omega), List.drop_append_of_le_length (by simp; omega)]
  unfold patch
  simp
/-- the disk behind it -/
def settleD (d : Disk) (keep : Nat → Bool) : Disk := ⟨d.count, settled d keep d.waits.length, []⟩
end disk
theorem all_fn {w : World} {i : Int} : Fn Try.prog 58 [i64 i] w (fun r w2 => r = .bool true ∧ Ext (fun _ => False) w w2) := by
  refine Fn.enter (fun w => Try.call58 _ w) Try.func58 rfl ?_
  refine .seq (.keep [] trivial (.region ?_))
  refine .p rfl rfl (.as rfl) ?_
  refine .nil (.code (.seq (.keep [] trivial (.region ?_))))
  refine .p rfl rfl (.as rfl) ?_
  refine .nil (.code ?_)
  refine .ret _ rfl ?_
  exact ⟨rfl, .refl _⟩
theorem settle_fn {w : World} {p f : Nat} {u u' : Value} {cap : List Value} {d : Disk} {P : Nat → Prop} {keep : Nat → Bool} (hB : Blk w p 36 [i64 d.count, u, u']) (hD : OwnD w (.agg #[i64 d.count, u, u']) d P) (hp : ¬ P p) (hc : checkF d = 0) (hk : ∀ (i : Nat) w', i < d.waits.length → Ext (fun k => k = p ∨ P k) w w' → Fn Try.prog f ([] ++ [i64 i] ++ cap) w' (fun r w2 => r = .bool (keep i) ∧ Ext (fun _ => False) w' w2)) : Fn Try.prog 57 [.pointer (some ⟨p, 0, none⟩), .func (.func f) #[] cap.toArray] w (fun r w2 => r = .tuple #[] ∧ ∃ u2, Blk w2 p 36 [i64 d.count, u2, .slice none 0 0] ∧ OwnD w2 (.agg #[i64 d.count, u2, .slice none 0 0]) (settleD d keep) P ∧ Ext (fun k => k = p ∨ P k) w w2) := by
  obtain ⟨v1, v2, bd, bw, Q, e, hcr, hO1, hO2, ⟨l1, l2, ne, p1, p2⟩, hq⟩ := hD
  simp at e
  obtain ⟨rfl, rfl⟩ := e
  obtain ⟨k1, k2, k3, k4, k5⟩ := check_ok hc
  have hlim := hO1.lim
  have hlimL := hlim
  simp only [Lim] at hlim
  obtain ⟨cap1, sp, rfl, hcap1, hBd, hcs⟩ := hO1.blk (fun e0 => by rw [e0] at k3; simp at k3; omega)
  have hW := Sl.imp (hO2.rep (Q' := fun k => k = bw ∨ (Q k ∧ k < w.heap.size)) (.inl rfl) (fun k a b => .inr ⟨a, b⟩)) (t' := tPut) (fun u x h => tPutO.weak h)
  obtain ⟨aw, capw, rfl, hcapw⟩ := Sl.val hW
  have hpd : ¬ p = bd := fun h => hp (h ▸ p1)
  have hnd : ∀ k, k = bw ∨ (Q k ∧ k < w.heap.size) → ¬ k = bd := by
    rintro k (rfl | ⟨h1, h2⟩) h3
    · exact ne h3.symm
    · exact (hq k h1 h2).2.1 h3
  have zw := hB.lt
  refine Fn.enter (fun w => Try.call57 _ w) Try.func57 rfl ?_
  refine .seq (.seq (.region ?_))
  refine .p rfl rfl (.mv rfl) ?_
  refine .p rfl rfl (.nilCheck rfl) ?_
  refine .p rfl rfl (.fieldAddr rfl rfl rfl rfl) ?_
  refine .p rfl rfl (.load rfl rfl rfl (hB.cell 2)) ?_
  refine .p rfl rfl (.len rfl rfl) ?_
  refine .p rfl rfl (.mv rfl) ?_
  refine .nil (.code (.block (.keep [(11, _), (10, _), (9, _), (0, _), (1, _)] ⟨rfl, rfl, rfl, rfl, rfl, trivial⟩ ?_)))
  refine .loop (S := Nat × World) (fun s => [(0, .pointer (some ⟨p, 0, none⟩)), (1, .func (.func f) #[] cap.toArray), (9, .slice aw d.waits.length capw), (10, i64 d.waits.length), (11, i64 s.1)]) (fun s => s.2) (fun s => s.1 ≤ d.waits.length ∧ Blk s.2 p 36 [i64 d.count, .slice (some ⟨bd, 0, none⟩) d.data.length cap1, .slice aw d.waits.length capw] ∧ Blk s.2 bd 5 ((settled d keep s.1).map u8 ++ sp) ∧ Ext (· = bd) w s.2) (fun s => d.waits.length - s.1) (0, w) ⟨rfl, rfl, rfl, rfl, rfl, trivial⟩ rfl ⟨Nat.zero_le _, hB, hBd, .refl _⟩ ?_
  rintro ⟨i, wi⟩ J ⟨hi', hBp, hBi, hXi⟩ again
  simp only at hi' hBp hBi hXi
  refine .seq (.region ?_)
  refine .p rfl rfl (.lt rfl rfl) ?_
  refine .nil (.code (.seq ?_))
  refine .condD rfl (fun c12 => ?_) (fun c12 => ?_)
  · have hil : i < d.waits.length := by omega
    obtain ⟨b1, o1, c1, ue, e, hQ, hcs1, hre⟩ := Sl.at hW (List.getElem?_eq_getElem hil)
    cases e
    obtain ⟨ud, rfl, hud, hs1, hs2⟩ := tPut.val hre
    obtain ⟨ad, capd, rfl, _⟩ := Sl.val hud
    have hcs' := hcs1.ext hXi (hnd b1 hQ)
    have hk5 := k5 _ (List.getElem_mem hil)
    obtain ⟨m, hm⟩ := Int.eq_ofNat_of_zero_le hk5.1
    have hsl := settled_length hc keep i
    have hm128 : m * 128 + 128 ≤ d.data.length := by omega
    have hv26 : cutV 1 (some ⟨bd, 0, none⟩) cap1 (d.waits[i].sector * 128).toNat d.data.length = .slice (some ⟨bd, m * 128, none⟩) (d.data.length - m * 128) (cap1 - m * 128) := by
      rw [show (d.waits[i].sector * 128).toNat = m * 128 by omega]
      unfold cutV
      rw [if_neg (by omega)]
      simp [add_none]
    refine .skip (.code (.seq (.block (.seq (.keep [(0, _), (1, _), (9, _), (10, _), (11, _)] ⟨rfl, rfl, rfl, rfl, rfl, trivial⟩ (.region ?_))))))
    refine .p rfl rfl (.mv rfl) ?_
    refine .p rfl rfl (.indexAddr (s := 2) rfl rfl rfl rfl (by omega)) ?_
    refine .p rfl rfl (.loadA (n := 2) rfl rfl rfl rfl rfl hcs') ?_
    refine .v rfl rfl (.alloc rfl rfl) ?_
    rintro _ w5 ⟨rfl, N5⟩
    refine .p rfl rfl (.as rfl) ?_
    refine .s rfl (.storeAll (n := 2) rfl rfl rfl rfl rfl N5.blk rfl) ?_
    intro w6 P6
    have X6 := N5.ext.then P6.ext (by rintro k rfl _; exact Nat.le_refl _)
    have z6 : w6.heap.size = wi.heap.size + 1 := by rw [P6.size, N5.size]
    have hXp : Ext (fun k => k = p ∨ P k) w w6 := (hXi.mono (by rintro k _ rfl; exact .inr p1)).trans (X6.mono (fun _ _ h => h.elim))
    refine .nil (.code (.seq (.keep [(4, _), (5, _), (0, _), (1, _), (9, _), (10, _), (11, _)] ⟨rfl, rfl, rfl, rfl, rfl, rfl, rfl, trivial⟩ (.region ?_))))
    refine .p rfl rfl (.mv rfl) ?_
    refine .p rfl rfl (.mv rfl) ?_
    refine .call (first := []) (captured := cap) rfl rfl rfl rfl (hk i w6 hil hXp) ?_
    rintro _ w18 ⟨rfl, X18⟩
    have B18 := (hBp.ext X6 (fun x => x)).ext X18 (fun x => x)
    have B5 := P6.blk.ext X18 (fun x => x)
    have D18 := (hBi.ext X6 (fun x => x)).ext X18 (fun x => x)
    have zi : w.heap.size ≤ wi.heap.size := hXi.size
    have Z18 : Ext (· = bd) w w18 := hXi.trans ((X6.trans X18).mono (fun _ _ h => h.elim))
    refine .nil (.code (.keep [(18, _), (5, _), (0, _), (1, _), (9, _), (10, _), (11, _)] ⟨rfl, rfl, rfl, rfl, rfl, rfl, rfl, trivial⟩ ?_))
    refine .cond rfl (fun c18 => ?_) (fun c18 => ?_)
    · refine .keep [(5, _), (0, _), (1, _), (9, _), (10, _), (11, _)] ⟨rfl, rfl, rfl, rfl, rfl, rfl, trivial⟩ (.mix ((· = bd)) [10] (by kernel_rfl) (by kernel_rfl) (by kernel_rfl) ?_)
      refine .p rfl rfl rfl (fun wx hx => .mv rfl) ?_
      refine .p rfl rfl rfl (fun wx hx => .nilCheck rfl) ?_
      refine .p rfl rfl rfl (fun wx hx => .fieldAddr rfl rfl rfl rfl) ?_
      refine .p rfl rfl rfl (fun wx hx => .load rfl rfl rfl ((B18.ext hx hpd).cell 1)) ?_
      refine .p rfl rfl rfl (fun wx hx => .fieldAddr rfl rfl rfl rfl) ?_
      refine .p rfl rfl rfl (fun wx hx => .load rfl rfl rfl ((B5.ext hx (by show ¬ wi.heap.size = bd; omega)).cell 0)) ?_
      refine .p rfl rfl rfl (fun wx hx => .mul rfl rfl (by omega)) ?_
      refine .p rfl rfl rfl (fun wx hx => .cast (.cutLo (s := 1) rfl rfl rfl rfl (by omega)) hv26) ?_
      refine .p rfl rfl rfl (fun wx hx => .fieldAddr rfl rfl rfl rfl) ?_
      refine .p rfl rfl rfl (fun wx hx => .load rfl rfl rfl ((B5.ext hx (by show ¬ wi.heap.size = bd; omega)).cell 1)) ?_
      refine .vL rfl rfl rfl (.copyB rfl D18 rfl (tBytes.ext hud Z18 (fun k h _ => hnd k h)) rfl rfl (by simp [hsl, hk5.2.2]; omega)) (by kernel_rfl) ?_
      rintro _ w29 ⟨rfl, P29⟩
      have D29 := P29.blk
      rw [patch_cells (by rw [hsl]; omega) (by omega)] at D29
      refine .nil (.blk (.code (.keep [(0, _), (1, _), (9, _), (10, _), (11, _)] ⟨rfl, rfl, rfl, rfl, rfl, trivial⟩ (.region ?_))))
      refine .p rfl rfl (.add rfl rfl (by omega)) ?_
      refine .p rfl rfl (.mv rfl) ?_
      refine .nil ?_
      exact (again (i + 1, w29) ⟨by show i + 1 ≤ _; omega, B18.ext P29.ext hpd, by rw [settled_step hil, if_pos c18, show d.waits[i].sector.toNat = m by omega]; exact D29, Z18.trans P29.ext⟩ (by show _ - (i + 1) < _ - i; omega)).of ⟨rfl, rfl, rfl, rfl, rfl, trivial⟩
    · refine .skip (.blk (.code (.keep [(0, _), (1, _), (9, _), (10, _), (11, _)] ⟨rfl, rfl, rfl, rfl, rfl, trivial⟩ (.region ?_))))
      refine .p rfl rfl (.add rfl rfl (by omega)) ?_
      refine .p rfl rfl (.mv rfl) ?_
      refine .nil ?_
      exact (again (i + 1, w18) ⟨by show i + 1 ≤ _; omega, B18, by rw [settled_step hil, if_neg (by simp [c18])]; exact D18, Z18⟩ (by show _ - (i + 1) < _ - i; omega)).of ⟨rfl, rfl, rfl, rfl, rfl, trivial⟩
  · obtain rfl : i = d.waits.length := by omega
    refine .exit rfl (.code (.keep [(0, _)] ⟨rfl, trivial⟩ (.region ?_)))
    refine .p rfl rfl (.mv rfl) ?_
    refine .p rfl rfl (.nilCheck rfl) ?_
    refine .p rfl rfl (.fieldAddr rfl rfl rfl rfl) ?_
    refine .s rfl (.store rfl rfl rfl rfl rfl hBp (by simp)) ?_
    intro w7 P7
    refine .nil ?_
    refine .fin _ rfl ?_
    have hsl := settled_length hc keep d.waits.length
    have z7 : w7.heap.size = wi.heap.size := P7.size
    have zi : w.heap.size ≤ wi.heap.size := hXi.size
    exact ⟨rfl, _, P7.blk, ⟨_, _, bd, bw, fun _ => False, rfl, hcr, Own.ofBlk (hBi.ext P7.ext (fun h => hpd h.symm)) (by show (settled d keep d.waits.length).length < Lim; rw [hsl]; exact hlimL) (by show d.data.length = (settled d keep d.waits.length).length; rw [hsl]) (by show (settled d keep d.waits.length).length + _ = _; rw [hsl]; exact hcs), Own.nil, ⟨by omega, by omega, ne, p1, p2⟩, fun k h _ => h.elim⟩, (hXi.mono (by rintro k _ rfl; exact .inr p1)).trans (P7.ext.mono (by rintro k _ rfl; exact .inl rfl))⟩
end Go.Proofs.Ytapdacjpmmjlhaa
