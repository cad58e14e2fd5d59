import Derived.Test.YthliepcjfnjnoaaGreatDoorB14
import Derived.Test.YthliepcjfnjnoaaGreatDoorB12
import Derived.Test.YthliepcjfnjnoaaGreatDoorB13
set_option linter.unusedVariables false
set_option linter.unusedSimpArgs false
set_option maxRecDepth 20000
namespace Go.Proofs.YthliepcjfnjnoaaGreatDoor
open Go disk log
theorem Records_fn {w : World} {v : Value} {d : Disk} (h : tDisk.rep All w v d) : Fn Tryz.prog 62 [v] w (fun r w2 => ∃ v', r = .tuple #[v', i64 (stateF d).2] ∧ tStrs.rep (fun k => w.heap.size ≤ k) w2 v' (stateF d).1.recs ∧ Ext (fun _ => False) w w2) := by
  obtain ⟨u, u', rfl, hd, hw, hc1, hc2⟩ := tDisk.val h
  refine Fn.enter (fun w => Tryz.call62 _ w) Tryz.func62 rfl ?_
  refine .seq (.region ?_)
  refine .v rfl rfl (.box rfl) ?_
  rintro _ w1 ⟨rfl, N1⟩
  refine .p rfl rfl (.as rfl) ?_
  refine .p rfl rfl (.as rfl) ?_
  refine .nil (.code (.seq (.keep [(1, _)] ⟨rfl, trivial⟩ (.region ?_))))
  refine .p rfl rfl (.loadA (n := 3) rfl rfl rfl rfl rfl N1.blk.cells) ?_
  refine .call (first := []) (captured := []) rfl rfl rfl rfl (logread_fn (tDisk.ext0 h N1.ext)) ?_
  rintro _ w8 ⟨p, v8, rfl, B8, R8, hp8, X8⟩
  have z1 := N1.size
  refine .p rfl rfl (.mv rfl) ?_
  refine .p rfl rfl (.extract rfl rfl) ?_
  refine .p rfl rfl (.extract rfl rfl) ?_
  refine .p rfl rfl (.as rfl) ?_
  refine .p rfl rfl (.as rfl) ?_
  refine .nil (.code (.seq (.keep [(5, _), (4, _)] ⟨rfl, rfl, trivial⟩ (.region ?_))))
  refine .p rfl rfl (.mv rfl) ?_
  refine .p rfl rfl (.nilCheck rfl) ?_
  refine .p rfl rfl (.fieldAddr rfl rfl rfl rfl) ?_
  refine .p rfl rfl (.load rfl rfl rfl (B8.cell 2)) ?_
  refine .p rfl rfl (.mv rfl) ?_
  refine .p rfl rfl (.as rfl) ?_
  refine .p rfl rfl (.as rfl) ?_
  refine .nil (.code ?_)
  refine .ret _ rfl ?_
  exact ⟨_, rfl, tStrs.mono R8 (fun k h _ => by have h : w1.heap.size ≤ k := h; show w.heap.size ≤ k; omega), N1.ext.trans X8⟩
theorem Add_fn {w : World} {v : Value} {d : Disk} {r : Bs} (h : tDisk.rep All w v d) (hr : r.length < Lim) : Fn Tryz.prog 54 [v, str r] w (fun x w2 => ∃ v' Q B, x = .tuple #[v', i64 (addF d r).2] ∧ OwnO tActO Q 96 w2 v' (addF d r).1 B ∧ (∀ k, Q k → w.heap.size ≤ k ∧ ¬ B k) ∧ (∀ k, B k → w.heap.size ≤ k) ∧ Ext (fun _ => False) w w2) := by
  obtain ⟨u, u', rfl, hd, hw, hc1, hc2⟩ := tDisk.val h
  simp only [Lim] at hr
  refine Fn.enter (fun w => Tryz.call54 _ w) Tryz.func54 rfl ?_
  refine .seq (.region ?_)
  refine .v rfl rfl (.box rfl) ?_
  rintro _ w2 ⟨rfl, N2⟩
  refine .p rfl rfl (.as rfl) ?_
  refine .p rfl rfl (.as rfl) ?_
  refine .nil (.code (.seq (.keep [(2, _), (1, _)] ⟨rfl, rfl, trivial⟩ (.region ?_))))
  refine .p rfl rfl (.loadA (n := 3) rfl rfl rfl rfl rfl N2.blk.cells) ?_
  refine .call (first := []) (captured := []) rfl rfl rfl rfl (logread_fn (tDisk.ext0 h N2.ext)) ?_
  rintro _ w16 ⟨p, v16, rfl, B16, R16, hp16, X16⟩
  have z2 := N2.size
  have X1 := N2.ext.trans X16
  have A1 := @add_err d r
  have A2 := @add_long d r
  have A3 := @add_full d r
  have A4 := @add_salt d r
  have A5 := @add_good d r
  have hst := @state_facts d
  have hat := state_at d
  generalize stateF d = st at *
  obtain ⟨⟨epoch, last, recs, a⟩, er⟩ := st
  simp only at *
  refine .p rfl rfl (.mv rfl) ?_
  refine .p rfl rfl (.extract rfl rfl) ?_
  refine .p rfl rfl (.extract rfl rfl) ?_
  refine .p rfl rfl (.as rfl) ?_
  refine .p rfl rfl (.as rfl) ?_
  refine .nil (.code (.seq (.block (.seq (.keep [(7, _), (6, _), (2, _), (1, _)] ⟨rfl, rfl, rfl, rfl, trivial⟩ (.region ?_))))))
  refine .p rfl rfl (.mv rfl) ?_
  refine .p rfl rfl (.ne rfl rfl) ?_
  refine .p rfl rfl (.as rfl) ?_
  refine .nil (.code (.keep [(19, _), (7, _), (6, _), (2, _), (1, _)] ⟨rfl, rfl, rfl, rfl, rfl, trivial⟩ ?_))
  refine .condD rfl (fun c19 => ?_) (fun c19 => ?_)
  · refine .seq (.keep [(7, _)] ⟨rfl, trivial⟩ (.region ?_))
    refine .p rfl rfl (.mv rfl) ?_
    refine .p rfl rfl (.as rfl) ?_
    refine .p rfl rfl (.as rfl) ?_
    refine .nil (.code ?_)
    refine .ret _ rfl ?_
    rw [A1 c19]
    exact ⟨_, fun _ => False, fun _ => False, rfl, OwnO.nil, fun _ h => h.elim, fun _ h => h.elim, X1⟩
  · have her : er = 0 := Decidable.byContradiction c19
    subst her
    obtain ⟨hep, hck, hct⟩ := hst rfl
    refine .seq (.keep [(6, _), (2, _), (1, _)] ⟨rfl, rfl, rfl, trivial⟩ (.region ?_))
    refine .p rfl rfl (.mv rfl) ?_
    refine .p rfl rfl (.lenS rfl rfl) ?_
    refine .p rfl rfl (.gt rfl rfl) ?_
    refine .p rfl rfl (.as rfl) ?_
    refine .nil (.code (.keep [(23, _), (6, _), (2, _), (1, _)] ⟨rfl, rfl, rfl, rfl, trivial⟩ ?_))
    refine .condD rfl (fun c23 => ?_) (fun c23 => ?_)
    · refine .seq (.keep [] trivial (.region ?_))
      refine .p rfl rfl (.as rfl) ?_
      refine .p rfl rfl (.as rfl) ?_
      refine .nil (.code ?_)
      refine .ret _ rfl ?_
      rw [A2 rfl (by omega)]
      exact ⟨_, fun _ => False, fun _ => False, rfl, OwnO.nil, fun _ h => h.elim, fun _ h => h.elim, X1⟩
    · refine .seq (.keep [(6, _), (2, _), (1, _)] ⟨rfl, rfl, rfl, trivial⟩ (.mix (fun _ => False) [6] (by kernel_rfl) (by kernel_rfl) (by kernel_rfl) ?_))
      refine .p rfl rfl rfl (fun wx hx => .mv rfl) ?_
      refine .p rfl rfl rfl (fun wx hx => .nilCheck rfl) ?_
      refine .p rfl rfl rfl (fun wx hx => .fieldAddr rfl rfl rfl rfl) ?_
      refine .p rfl rfl rfl (fun wx hx => .load rfl rfl rfl ((B16.ext hx (fun x => x)).cell 3)) ?_
      refine .p rfl rfl rfl (fun wx hx => .mv rfl) ?_
      refine .p rfl rfl rfl (fun wx hx => .lenS rfl rfl) ?_
      refine .call (first := []) (captured := []) rfl rfl rfl rfl rfl (sectors_fn (by simp only [Lim]; omega)) (by rintro _ _ ⟨_, hs⟩; exact .same hs) ?_
      rintro _ w34 ⟨rfl, S34⟩
      have hnb := needs_bd (n := r.length) (by omega)
      have X34 := X1.trans (.same S34)
      have B34 := B16.ext (S := fun _ => False) (.same S34) (fun x => x)
      refine .p rfl rfl rfl (fun wx hx => .add rfl rfl (by omega)) ?_
      refine .p rfl rfl rfl (fun wx hx => .gt rfl rfl) ?_
      refine .p rfl rfl rfl (fun wx hx => .as rfl) ?_
      refine .nil (.code (.keep [(27, _), (6, _), (2, _), (1, _)] ⟨rfl, rfl, rfl, rfl, trivial⟩ ?_))
      refine .condD rfl (fun c27 => ?_) (fun c27 => ?_)
      · refine .seq (.keep [] trivial (.region ?_))
        refine .p rfl rfl (.as rfl) ?_
        refine .p rfl rfl (.as rfl) ?_
        refine .nil (.code ?_)
        refine .ret _ rfl ?_
        rw [A3 rfl (by omega) (by omega)]
        exact ⟨_, fun _ => False, fun _ => False, rfl, OwnO.nil, fun _ h => h.elim, fun _ h => h.elim, X34⟩
      · refine .skip (.blk (.code (.seq (.keep [(6, _), (2, _), (1, _)] ⟨rfl, rfl, rfl, trivial⟩ (.region ?_)))))
        refine .p rfl rfl (.as rfl) ?_
        refine .nil (.code (.seq (.seq (.region ?_))))
        refine .p rfl rfl (.mv rfl) ?_
        refine .p rfl rfl (.nilCheck rfl) ?_
        refine .p rfl rfl (.fieldAddr rfl rfl rfl rfl) ?_
        refine .p rfl rfl (.load rfl rfl rfl (B34.cell 3)) ?_
        refine .p rfl rfl (.add rfl rfl (by omega)) ?_
        refine .p rfl rfl (.as rfl) ?_
        refine .nil (.code (.block (.keep [(9, _), (8, _), (6, _), (2, _), (1, _)] ⟨rfl, rfl, rfl, rfl, rfl, trivial⟩ ?_)))
        refine .loop (S := Nat × World) (fun s => [(1, str r), (2, .pointer (some ⟨w.heap.size, 0, none⟩)), (6, .pointer (some ⟨p, 0, none⟩)), (8, u32 (saltTo d epoch a s.1)), (9, i64 ((17 + (a + s.1) : Nat) : Int))]) (fun s => s.2) (fun s => s.1 ≤ 63 - a ∧ Ext (fun _ => False) w34 s.2) (fun s => 63 - a - s.1) (0, w34) ⟨rfl, rfl, rfl, rfl, rfl, trivial⟩ rfl ⟨Nat.zero_le _, .refl _⟩ ?_
        rintro ⟨i, wi⟩ J ⟨hi', hX⟩ again
        simp only at hi' hX
        change G _ [(1, str r), (2, .pointer (some ⟨w.heap.size, 0, none⟩)), (6, .pointer (some ⟨p, 0, none⟩)), (8, u32 (saltTo d epoch a i)), (9, i64 ((17 + (a + i) : Nat) : Int))] _ _ wi
        refine .seq (.seq (.region ?_))
        refine .p rfl rfl (.mv rfl) ?_
        refine .p rfl rfl (.lt rfl rfl) ?_
        refine .nil (.code (.keep [(43, _), (1, _), (2, _), (6, _), (8, _), (9, _)] ⟨rfl, rfl, rfl, rfl, rfl, rfl, trivial⟩ ?_))
        refine .condD rfl (fun c43 => ?_) (fun c43 => ?_)
        · have hi : i < 63 - a := by omega
          refine .skip (.code (.seq (.block (.seq (.keep [(1, _), (2, _), (6, _), (8, _), (9, _)] ⟨rfl, rfl, rfl, rfl, rfl, trivial⟩ (.region ?_))))))
          refine .p rfl rfl (.loadA (n := 3) rfl rfl rfl rfl rfl (N2.blk.ext (X16.trans ((Ext.same (S := fun _ => False) S34).trans hX)) (fun x => x)).cells) ?_
          refine .p rfl rfl (.mv rfl) ?_
          refine .call (first := []) (captured := []) rfl rfl rfl rfl (sector_fn (tDisk.ext0 h (X34.trans hX)) (asked_in hck (by omega) (by omega))) ?_
          rintro r48 w48 ⟨b48, O48, hb48, X48⟩
          have R48 : tBytes.rep All w48 r48 (readF d ((17 + (a + i) : Nat) : Int)) := O48.rep trivial (fun _ h _ => h.elim)
          have hl := readF_length hck (n := ((17 + (a + i) : Nat) : Int)) (by omega) (by omega)
          obtain ⟨a48, c48, rfl, hc48⟩ := Sl.val R48
          rw [hl] at R48 hc48 ⊢
          have R58 := Sl.cut R48 4 128 (by omega) (by omega)
          have R61 := Sl.cut R48 8 128 (by omega) (by omega)
          have et : (readF d ((17 + (a + i) : Nat) : Int)).take 128 = readF d ((17 + (a + i) : Nat) : Int) := List.take_of_length_le (by omega)
          rw [et] at R58 R61
          refine .p rfl rfl (.as rfl) ?_
          refine .nil (.code (.seq (.keep [(10, _), (1, _), (2, _), (6, _), (8, _), (9, _)] ⟨rfl, rfl, rfl, rfl, rfl, rfl, trivial⟩ (.mix (fun _ => False) [1] (by kernel_rfl) (by kernel_rfl) (by kernel_rfl) ?_))))
          refine .p rfl rfl rfl (fun wx hx => .mv rfl) ?_
          refine .call (first := []) (captured := []) rfl rfl rfl rfl rfl (logget_fn R48 (by omega)) (by rintro _ _ ⟨_, hX⟩; exact hX) ?_
          rintro _ w50 ⟨rfl, X50⟩
          refine .p rfl rfl rfl (fun wx hx => .mv rfl) ?_
          refine .p rfl rfl rfl (fun wx hx => .nilCheck rfl) ?_
          refine .p rfl rfl rfl (fun wx hx => .fieldAddr rfl rfl rfl rfl) ?_
          refine .p rfl rfl rfl (fun wx hx => .load rfl rfl rfl ((B34.ext (hX.trans (X48.trans hx)) (fun x => x)).cell 0)) ?_
          refine .p rfl rfl rfl (fun wx hx => .eq rfl rfl) ?_
          refine .nil (.code (.keep [(55, _), (10, _), (1, _), (2, _), (6, _), (8, _), (9, _)] ⟨rfl, rfl, rfl, rfl, rfl, rfl, rfl, trivial⟩ ?_))
          refine .condD rfl (fun c55 => ?_) (fun c55 => ?_)
          · refine .keep [(10, _), (1, _), (2, _), (6, _), (8, _), (9, _)] ⟨rfl, rfl, rfl, rfl, rfl, rfl, trivial⟩ (.mix (fun _ => False) [3, 6] (by kernel_rfl) (by kernel_rfl) (by kernel_rfl) ?_)
            refine .p rfl rfl rfl (fun wx hx => .mv rfl) ?_
            refine .p rfl rfl rfl (fun wx hx => .mv rfl) ?_
            refine .p rfl rfl rfl (fun wx hx => .cutLo (s := 1) rfl rfl rfl rfl (by omega)) ?_
            refine .call (first := []) (captured := []) rfl rfl rfl rfl rfl (logget_fn (tBytes.ext0 R58 X50) (by rw [List.length_drop]; omega)) (by rintro _ _ ⟨_, hX⟩; exact hX) ?_
            rintro _ w59 ⟨rfl, X59⟩
            refine .p rfl rfl rfl (fun wx hx => .mv rfl) ?_
            refine .p rfl rfl rfl (fun wx hx => .cutLo (s := 1) rfl rfl rfl rfl (by omega)) ?_
            refine .call (first := []) (captured := []) rfl rfl rfl rfl rfl (logget_fn (tBytes.ext0 R61 (X50.trans X59)) (by rw [List.length_drop]; omega)) (by rintro _ _ ⟨_, hX⟩; exact X59.trans hX) ?_
            rintro _ w62 ⟨rfl, X62⟩
            refine .p rfl rfl rfl (fun wx hx => .cast (.max3 rfl rfl rfl) (u32_max3 _ _ _)) ?_
            refine .p rfl rfl rfl (fun wx hx => .as rfl) ?_
            refine .nil (.blk (.code (.keep [(8, _), (1, _), (2, _), (6, _), (9, _)] ⟨rfl, rfl, rfl, rfl, rfl, trivial⟩ (.region ?_))))
            refine .p rfl rfl (.mv rfl) ?_
            refine .p rfl rfl (.add rfl rfl (by omega)) ?_
            refine .p rfl rfl (.as rfl) ?_
            refine .nil ?_
            refine (again (i + 1, w62) ⟨by show i + 1 ≤ _; omega, hX.trans (X48.trans (X50.trans (X59.trans X62)))⟩ (by show _ - (i + 1) < _ - i; omega)).of ⟨rfl, rfl, rfl, ?_, rfl, trivial⟩
            show some _ = some (u32 (saltTo d epoch a (i + 1)))
            rw [saltTo_succ, saltStep_T ((u32_eq _ _).1 c55)]
          · refine .skip (.blk (.code (.keep [(1, _), (2, _), (6, _), (8, _), (9, _)] ⟨rfl, rfl, rfl, rfl, rfl, trivial⟩ (.region ?_))))
            refine .p rfl rfl (.mv rfl) ?_
            refine .p rfl rfl (.add rfl rfl (by omega)) ?_
            refine .p rfl rfl (.as rfl) ?_
            refine .nil ?_
            refine (again (i + 1, w50) ⟨by show i + 1 ≤ _; omega, hX.trans (X48.trans X50)⟩ (by show _ - (i + 1) < _ - i; omega)).of ⟨rfl, rfl, rfl, ?_, rfl, trivial⟩
            show some _ = some (u32 (saltTo d epoch a (i + 1)))
            rw [saltTo_succ, saltStep_F (fun e => c55 ((u32_eq _ _).2 e))]
        · obtain rfl : i = 63 - a := by omega
          rw [show saltTo d epoch a (63 - a) = saltF d epoch a from rfl]
          refine .exit rfl (.code (.seq (.seq (.keep [(1, _), (6, _), (8, _)] ⟨rfl, rfl, rfl, trivial⟩ (.region ?_)))))
          refine .p rfl rfl (.mv rfl) ?_
          refine .p rfl rfl (.eq rfl rfl) ?_
          refine .nil (.code (.keep [(65, _), (1, _), (6, _), (8, _)] ⟨rfl, rfl, rfl, rfl, trivial⟩ ?_))
          refine .condD rfl (fun c65 => ?_) (fun c65 => ?_)
          · refine .seq (.keep [] trivial (.region ?_))
            refine .p rfl rfl (.as rfl) ?_
            refine .p rfl rfl (.as rfl) ?_
            refine .nil (.code ?_)
            refine .ret _ rfl ?_
            rw [A4 rfl (by omega) (by omega) ((u32_last _).1 c65)]
            exact ⟨_, fun _ => False, fun _ => False, rfl, OwnO.nil, fun _ h => h.elim, fun _ h => h.elim, X34.trans hX⟩
          · have c65' : ¬ saltF d epoch a = 4294967295 := fun e => c65 ((u32_last _).2 e)
            have hX := hX
            refine .skip (.code (.seq (.keep [(1, _), (6, _), (8, _)] ⟨rfl, rfl, rfl, trivial⟩ (.mix (fun _ => False) [11] (by kernel_rfl) (by kernel_rfl) (by kernel_rfl) ?_))))
            refine .p rfl rfl rfl (fun wx hx => .mv rfl) ?_
            refine .p rfl rfl rfl (fun wx hx => .nilCheck rfl) ?_
            refine .p rfl rfl rfl (fun wx hx => .fieldAddr rfl rfl rfl rfl) ?_
            refine .p rfl rfl rfl (fun wx hx => .load rfl rfl rfl ((B34.ext (hX.trans hx) (fun x => x)).cell 0)) ?_
            refine .p rfl rfl rfl (fun wx hx => .mv rfl) ?_
            refine .p rfl rfl rfl (fun wx hx => .add32 (b := 1) rfl rfl) ?_
            refine .p rfl rfl rfl (fun wx hx => .mv rfl) ?_
            refine .p rfl rfl rfl (fun wx hx => .nilCheck rfl) ?_
            refine .p rfl rfl rfl (fun wx hx => .fieldAddr rfl rfl rfl rfl) ?_
            refine .p rfl rfl rfl (fun wx hx => .load rfl rfl rfl ((B34.ext (hX.trans hx) (fun x => x)).cell 1)) ?_
            refine .p rfl rfl rfl (fun wx hx => .mv rfl) ?_
            refine .call (first := []) (captured := []) rfl rfl rfl rfl rfl (Frame_fn (by simp only [Lim]; omega)) (by rintro _ _ ⟨_, _, _, hX⟩; exact hX) ?_
            rintro _ w78 ⟨s78, rfl, R78, X78⟩
            have hsn := u32_succ_ne c65'
            rw [frame_good hep hsn.1 (by omega)] at R78 ⊢
            have R78 := tBytes.mono (P' := fun k => k < w78.heap.size) R78 (fun k _ h => h)
            have hFl := frameL_length epoch (saltF d epoch a + 1) last r
            generalize hF : frameL epoch (saltF d epoch a + 1) last r = F at R78 hFl A5
            have X78' := X34.trans (hX.trans X78)
            have B78 := B34.ext (hX.trans X78) (fun x => x)
            refine .p rfl rfl rfl (fun wx hx => .mv rfl) ?_
            refine .p rfl rfl rfl (fun wx hx => .extract rfl rfl) ?_
            refine .p rfl rfl rfl (fun wx hx => .extract rfl rfl) ?_
            refine .p rfl rfl rfl (fun wx hx => .as rfl) ?_
            refine .p rfl rfl rfl (fun wx hx => .as rfl) ?_
            refine .nil (.code (.seq (.seq (.keep [(7, _), (11, _), (6, _)] ⟨rfl, rfl, rfl, trivial⟩ (.region ?_)))))
            refine .p rfl rfl (.mv rfl) ?_
            refine .p rfl rfl (.no (.ne rfl rfl) (fun h => h rfl)) ?_
            refine .nil (.code (.keep [(82, _), (7, _), (11, _), (6, _)] ⟨rfl, rfl, rfl, rfl, trivial⟩ (.condF rfl (.skip (.code (.seq (.keep [(11, _), (6, _)] ⟨rfl, rfl, trivial⟩ (.region ?_))))))))
            refine .p rfl rfl (.as rfl) ?_
            refine .nil (.code (.seq (.seq (.region ?_))))
            refine .p rfl rfl (.mv rfl) ?_
            refine .p rfl rfl (.nilCheck rfl) ?_
            refine .p rfl rfl (.fieldAddr rfl rfl rfl rfl) ?_
            refine .p rfl rfl (.load rfl rfl rfl (B78.cell 3)) ?_
            refine .p rfl rfl (.add rfl rfl (by omega)) ?_
            refine .p rfl rfl (.as rfl) ?_
            refine .nil (.code (.block (.keep [(13, _), (12, _), (11, _)] ⟨rfl, rfl, rfl, trivial⟩ ?_)))
            refine .loop (S := Nat × World × Value × Value × (Nat → Prop) × (Nat → Prop)) (fun s => [(11, s.2.2.1), (12, s.2.2.2.1), (13, i64 ((17 + a + s.1 : Nat) : Int))]) (fun s => s.2.1) (fun s => s.1 ≤ needs r.length ∧ tBytes.rep (fun k => k < w78.heap.size) s.2.1 s.2.2.1 (F.drop (s.1 * 128)) ∧ OwnO tActO s.2.2.2.2.1 96 s.2.1 s.2.2.2.1 (actsTo (17 + a) F s.1) s.2.2.2.2.2 ∧ (∀ k, s.2.2.2.2.1 k → w78.heap.size ≤ k ∧ ¬ s.2.2.2.2.2 k ∧ k < s.2.1.heap.size) ∧ (∀ k, s.2.2.2.2.2 k → w78.heap.size ≤ k ∧ k < s.2.1.heap.size) ∧ Ext (fun _ => False) w78 s.2.1) (fun s => needs r.length - s.1) (0, w78, _, .slice none 0 0, fun _ => False, fun _ => False) ⟨rfl, rfl, rfl, trivial⟩ rfl ⟨Nat.zero_le _, R78, OwnO.nil, fun _ h => h.elim, fun _ h => h.elim, .refl _⟩ ?_
            rintro ⟨j, wj, vb, va, Q, B⟩ J ⟨hj, Rb, hO, hQ, hB, hXj⟩ again
            simp only at hj Rb hO hQ hB hXj
            have zj := hXj.size
            change G _ [(11, vb), (12, va), (13, i64 ((17 + a + j : Nat) : Int))] _ _ wj
            refine .seq (.seq (.region ?_))
            obtain ⟨ab, cb, rfl, hcb⟩ := Sl.val Rb
            refine .p rfl rfl (.mv rfl) ?_
            refine .p rfl rfl (.len rfl rfl) ?_
            refine .p rfl rfl (.gt rfl rfl) ?_
            refine .nil (.code (.keep [(91, _), (11, _), (12, _), (13, _)] ⟨rfl, rfl, rfl, rfl, trivial⟩ ?_))
            refine .condD rfl (fun c91 => ?_) (fun c91 => ?_)
            · have hj2 : j < needs r.length := by rw [List.length_drop] at c91; omega
              have hdl : 128 ≤ (F.drop (j * 128)).length := by rw [List.length_drop]; omega
              have R97 := Sl.cut Rb 0 128 (by omega) (by omega)
              obtain ⟨a104, c104, hv104, hc104, R104⟩ := Sl.cutE Rb 128 (F.drop (j * 128)).length (by omega) (by omega)
              rw [List.take_length] at R104
              refine .skip (.code (.seq (.block (.seq (.keep [(11, _), (12, _), (13, _)] ⟨rfl, rfl, rfl, trivial⟩ (.region ?_))))))
              refine .p rfl rfl (.mv rfl) ?_
              refine .p rfl rfl (.mv rfl) ?_
              refine .p rfl rfl (.mv rfl) ?_
              refine .p rfl rfl (.cutHi (s := 1) rfl rfl rfl rfl (by omega)) ?_
              refine .call (first := []) (captured := []) rfl rfl rfl rfl (bytesClone_fn (allOf R97)) ?_
              rintro r98 w98 ⟨b98, O98, hb98, X98⟩
              obtain ⟨a98, c98, rfl, hc98⟩ := O98.val
              rw [List.drop_zero] at O98 ⊢
              have z98 := X98.size
              have z34 := hX.size
              refine .p rfl rfl (.build (cs := [i64 ((17 + a + j : Nat) : Int), .slice a98 ((F.drop (j * 128)).take 128).length c98]) rfl (fun _ => by kernel_rfl)) ?_
              refine .p rfl rfl (.build (cs := [.bool false, i64 ((17 + a + j : Nat) : Int), .slice a98 ((F.drop (j * 128)).take 128).length c98]) rfl (fun _ => by kernel_rfl)) ?_
              refine .v rfl rfl (.lits rfl rfl (fun _ => by kernel_rfl)) ?_
              rintro _ w101 ⟨rfl, N101⟩
              have z101 := N101.size
              have hQB : ∀ k, (fun k => Q k ∨ (wj.heap.size ≤ k ∧ k < w98.heap.size)) k → ¬ (B k ∨ w101.heap.size ≤ k) := by
                rintro k (hk | hk) (hb | hb)
                · exact (hQ k hk).2.1 hb
                · have := (hQ k hk).2.2; omega
                · have := (hB k hb).2; omega
                · omega
              have hO101 := OwnO.ext0 (OwnO.mono (OwnO.ext0 hO X98) (Q' := (fun k => Q k ∨ (wj.heap.size ≤ k ∧ k < w98.heap.size))) (B' := fun k => B k ∨ w101.heap.size ≤ k) (fun _ h _ => .inl h) (fun _ h _ => .inl h)) N101.ext
              refine .v rfl rfl (.appendLo (t := tActO) (Q := (fun k => Q k ∨ (wj.heap.size ≤ k ∧ k < w98.heap.size))) (B := fun k => B k ∨ w101.heap.size ≤ k) (eb := 40) rfl hO101 (fun k hk => .inr hk) rfl (.inr (New.holds (t := tActO) (xs := [⟨false, ⟨((17 + a + j : Nat) : Int), (F.drop (j * 128)).take 128⟩⟩]) N101 (.cons (tActO.mk (P := (fun k => Q k ∨ (wj.heap.size ≤ k ∧ k < w98.heap.size))) (a := ⟨false, ⟨((17 + a + j : Nat) : Int), (F.drop (j * 128)).take 128⟩⟩) (OwnB.of' (P := (fun k => Q k ∨ (wj.heap.size ≤ k ∧ k < w98.heap.size))) O98 (fun hlt => .inr ⟨hb98, hlt⟩)) (by show -9223372036854775808 ≤ ((17 + a + j : Nat) : Int) ∧ ((17 + a + j : Nat) : Int) ≤ 9223372036854775807; omega)) .nil) rfl)) rfl rfl rfl rfl rfl rfl rfl (by rw [actsTo_length]; simp; omega) (by rw [actsTo_length]; simp [Lim]; omega) (fun k hk hlt hB2 => hQB k hk hB2)) ?_
              rintro r102 w102 ⟨G102, Y102⟩
              have z102 := Y102.size
              refine .p rfl rfl (.as rfl) ?_
              refine .nil (.code (.keep [(12, _), (11, _), (13, _)] ⟨rfl, rfl, rfl, trivial⟩ (.region ?_)))
              refine .p rfl rfl (.mv rfl) ?_
              refine .p rfl rfl (.cast (.cutLo (s := 1) rfl rfl rfl rfl (by omega)) (by show cutV 1 ab cb 128 (F.drop (j * 128)).length = .slice a104 ((F.drop (j * 128)).length - 128) c104; exact hv104)) ?_
              refine .p rfl rfl (.as rfl) ?_
              refine .nil (.blk (.code (.keep [(11, _), (12, _), (13, _)] ⟨rfl, rfl, rfl, trivial⟩ (.region ?_))))
              refine .p rfl rfl (.mv rfl) ?_
              refine .p rfl rfl (.add rfl rfl (by omega)) ?_
              refine .p rfl rfl (.as rfl) ?_
              refine .nil ?_
              refine (again (j + 1, w102, .slice a104 ((F.drop (j * 128)).length - 128) c104, r102, (fun k => Q k ∨ (wj.heap.size ≤ k ∧ k < w98.heap.size)), (fun k => (B k ∨ w101.heap.size ≤ k) ∧ k < w102.heap.size)) ⟨by show j + 1 ≤ _; omega, ?_, ?_, ?_, ?_, ?_⟩ (by show _ - (j + 1) < _ - j; omega)).of ⟨rfl, rfl, rfl, trivial⟩
              · show tBytes.rep _ w102 _ (F.drop ((j + 1) * 128))
                have e : F.drop ((j + 1) * 128) = (F.drop (j * 128)).drop 128 := by rw [List.drop_drop]; congr 1; omega
                rw [e]
                exact tBytes.ext (tBytes.ext0 (tBytes.ext0 R104 X98) N101.ext) Y102 (fun k hk _ h => by have hk : k < w78.heap.size := hk; rcases h with h | h; have := (hB k h).1; omega; omega)
              · show OwnO tActO _ _ w102 r102 (actsTo (17 + a) F (j + 1)) _
                rw [actsTo_succ]
                exact OwnO.mono G102 (fun _ h _ => h) (fun k h hlt => ⟨h, hlt⟩)
              · intro k hk
                exact ⟨by rcases hk with hk | hk; exact (hQ k hk).1; omega, fun h => hQB k hk h.1, by show k < w102.heap.size; rcases hk with hk | hk; have := (hQ k hk).2.2; omega; omega⟩
              · intro k hk
                exact ⟨by rcases hk.1 with h | h; exact (hB k h).1; omega, hk.2⟩
              · exact ((hXj.trans X98).trans N101.ext).then Y102 (fun k h _ => by rcases h with h | h; exact (hB k h).1; omega)
            · refine .exit rfl (.code (.seq (.keep [(12, _)] ⟨rfl, trivial⟩ (.region ?_))))
              refine .p rfl rfl (.mv rfl) ?_
              refine .p rfl rfl (.as rfl) ?_
              refine .p rfl rfl (.as rfl) ?_
              refine .nil (.code ?_)
              refine .ret _ rfl ?_
              rw [A5 rfl (by omega) (by omega) c65']
              obtain rfl : j = needs r.length := by rw [List.length_drop] at c91; omega
              have zz := X78'.size
              exact ⟨_, Q, B, rfl, hO, fun k hk => ⟨by have := (hQ k hk).1; omega, (hQ k hk).2.1⟩, fun k hk => by have := (hB k hk).1; omega, X78'.trans hXj⟩
theorem Clear_fn {w : World} {v : Value} {d : Disk} (h : tDisk.rep All w v d) : Fn Tryz.prog 36 [v] w (fun x w2 => ∃ v' Q B, x = .tuple #[v', i64 (clearF d).2] ∧ OwnO tActO Q 96 w2 v' (clearF d).1 B ∧ (∀ k, Q k → w.heap.size ≤ k ∧ ¬ B k) ∧ (∀ k, B k → w.heap.size ≤ k) ∧ Ext (fun _ => False) w w2) := by
  obtain ⟨u, u', rfl, hd, hw, hc1, hc2⟩ := tDisk.val h
  refine Fn.enter (fun w => Tryz.call36 _ w) Tryz.func36 rfl ?_
  refine .seq (.region ?_)
  refine .v rfl rfl (.box rfl) ?_
  rintro _ w1 ⟨rfl, N1⟩
  refine .p rfl rfl (.as rfl) ?_
  refine .p rfl rfl (.as rfl) ?_
  refine .nil (.code (.seq (.seq (.keep [(1, _)] ⟨rfl, trivial⟩ (.region ?_)))))
  refine .p rfl rfl (.loadA (n := 3) rfl rfl rfl rfl rfl N1.blk.cells) ?_
  refine .call (first := []) (captured := []) rfl rfl rfl rfl (there_fn (tDisk.ext0 h N1.ext)) ?_
  rintro _ w9 ⟨rfl, X9⟩
  have X1 := N1.ext.trans X9
  have B9 := N1.blk.ext X9 (fun x => x)
  have z1 := X1.size
  refine .p rfl rfl (.as rfl) ?_
  refine .nil (.code (.seq (.keep [(4, _), (1, _)] ⟨rfl, rfl, trivial⟩ (.region ?_))))
  refine .p rfl rfl (.mv rfl) ?_
  refine .p rfl rfl (.ne rfl rfl) ?_
  refine .nil (.code (.keep [(11, _), (4, _), (1, _)] ⟨rfl, rfl, rfl, trivial⟩ ?_))
  refine .condD rfl (fun c11 => ?_) (fun c11 => ?_)
  · refine .seq (.keep [(4, _)] ⟨rfl, trivial⟩ (.region ?_))
    refine .p rfl rfl (.mv rfl) ?_
    refine .p rfl rfl (.as rfl) ?_
    refine .p rfl rfl (.as rfl) ?_
    refine .nil (.code ?_)
    refine .ret _ rfl ?_
    rw [clear_err c11]
    exact ⟨_, fun _ => False, fun _ => False, rfl, OwnO.nil, fun _ h => h.elim, fun _ h => h.elim, X1⟩
  · have hth : thereF d = 0 := Decidable.byContradiction c11
    obtain ⟨hck, hct⟩ := there_ok hth
    refine .skip (.code (.seq (.keep [(1, _)] ⟨rfl, trivial⟩ (.region ?_))))
    refine .p rfl rfl (.loadA (n := 3) rfl rfl rfl rfl rfl B9.cells) ?_
    refine .call (first := []) (captured := []) rfl rfl rfl rfl (epochOf_fn (tDisk.ext0 h X1) hck hct) ?_
    rintro _ w14 ⟨rfl, X14⟩
    have X2 := X1.trans X14
    refine .p rfl rfl (.as rfl) ?_
    refine .nil (.code (.seq (.seq (.keep [(5, _), (1, _)] ⟨rfl, rfl, trivial⟩ (.region ?_)))))
    refine .p rfl rfl (.as rfl) ?_
    refine .nil (.code (.block ?_))
    refine .loop (S := Nat × World) (fun s => [(1, .pointer (some ⟨w.heap.size, 0, none⟩)), (5, u32 (epochTo d s.1)), (6, i64 ((17 + s.1 : Nat) : Int))]) (fun s => s.2) (fun s => s.1 ≤ 63 ∧ Ext (fun _ => False) w14 s.2) (fun s => 63 - s.1) (0, w14) ⟨rfl, rfl, rfl, trivial⟩ rfl ⟨Nat.zero_le _, .refl _⟩ ?_
    rintro ⟨i, wi⟩ J ⟨hi', hX⟩ again
    simp only at hi' hX
    change G _ [(1, .pointer (some ⟨w.heap.size, 0, none⟩)), (5, u32 (epochTo d i)), (6, i64 ((17 + i : Nat) : Int))] _ _ wi
    refine .seq (.seq (.region ?_))
    refine .p rfl rfl (.mv rfl) ?_
    refine .p rfl rfl (.lt rfl rfl) ?_
    refine .nil (.code (.keep [(16, _), (1, _), (5, _), (6, _)] ⟨rfl, rfl, rfl, rfl, trivial⟩ ?_))
    refine .condD rfl (fun c16 => ?_) (fun c16 => ?_)
    · have hi : i < 63 := by omega
      refine .skip (.code (.seq (.block (.keep [(1, _), (5, _), (6, _)] ⟨rfl, rfl, rfl, trivial⟩ (.region ?_)))))
      refine .p rfl rfl (.mv rfl) ?_
      refine .p rfl rfl (.loadA (n := 3) rfl rfl rfl rfl rfl (B9.ext (X14.trans hX) (fun x => x)).cells) ?_
      refine .p rfl rfl (.mv rfl) ?_
      refine .call (first := []) (captured := []) rfl rfl rfl rfl (sector_fn (tDisk.ext0 h (X2.trans hX)) (asked_in hck (by omega) (by omega))) ?_
      rintro r22 w22 ⟨b22, O22, hb22, X22⟩
      have R22 : tBytes.rep All w22 r22 (readF d ((17 + i : Nat) : Int)) := O22.rep trivial (fun _ h _ => h.elim)
      have hl := readF_length hck (n := ((17 + i : Nat) : Int)) (by omega) (by omega)
      refine .call (first := []) (captured := []) rfl rfl rfl rfl (logget_fn R22 (by omega)) ?_
      rintro _ w23 ⟨rfl, X23⟩
      refine .p rfl rfl (.cast (.max2 rfl rfl) (u32_max _ _)) ?_
      refine .p rfl rfl (.as rfl) ?_
      refine .nil (.blk (.code (.keep [(5, _), (1, _), (6, _)] ⟨rfl, rfl, rfl, trivial⟩ (.region ?_))))
      refine .p rfl rfl (.mv rfl) ?_
      refine .p rfl rfl (.add rfl rfl (by omega)) ?_
      refine .p rfl rfl (.as rfl) ?_
      refine .nil ?_
      exact (again (i + 1, w23) ⟨by show i + 1 ≤ _; omega, hX.trans (X22.trans X23)⟩ (by show _ - (i + 1) < _ - i; omega)).of ⟨rfl, rfl, rfl, trivial⟩
    · obtain rfl : i = 63 := by omega
      have zX := hX.size
      have z14 := X14.size
      refine .exit rfl (.code (.seq (.seq (.keep [(5, _)] ⟨rfl, trivial⟩ (.region ?_)))))
      refine .p rfl rfl (.mv rfl) ?_
      refine .p rfl rfl (.eq rfl rfl) ?_
      refine .nil (.code (.keep [(26, _), (5, _)] ⟨rfl, rfl, trivial⟩ ?_))
      refine .condD rfl (fun c26 => ?_) (fun c26 => ?_)
      · refine .seq (.keep [] trivial (.region ?_))
        refine .p rfl rfl (.as rfl) ?_
        refine .p rfl rfl (.as rfl) ?_
        refine .nil (.code ?_)
        refine .ret _ rfl ?_
        rw [clear_full hth ((u32_last _).1 c26)]
        exact ⟨_, fun _ => False, fun _ => False, rfl, OwnO.nil, fun _ h => h.elim, fun _ h => h.elim, X2.trans hX⟩
      · have c26' : ¬ epochTo d 63 = 4294967295 := fun e => c26 ((u32_last _).2 e)
        refine .skip (.code (.seq (.keep [(5, _)] ⟨rfl, trivial⟩ (.region ?_))))
        refine .v rfl rfl (.make (eb := 1) rfl rfl rfl rfl rfl rfl rfl rfl (by omega)) ?_
        rintro _ w27 ⟨rfl, N27⟩
        have B27 : Blk w27 wi.heap.size 5 ((List.replicate 128 0).map u8) := by rw [List.map_replicate]; exact N27.blk
        have z27 := N27.size
        refine .p rfl rfl (.as rfl) ?_
        refine .nil (.code (.seq (.keep [(7, _), (5, _)] ⟨rfl, rfl, trivial⟩ (.region ?_))))
        refine .p rfl rfl (.mv rfl) ?_
        refine .p rfl rfl (.mv rfl) ?_
        refine .p rfl rfl (.add32 (b := 1) rfl rfl) ?_
        refine .call (first := []) (captured := []) rfl rfl rfl rfl (logput_fn) ?_
        rintro r31 w31 ⟨R31, X31⟩
        have B31 := B27.ext X31 (fun x => x)
        have z31 := X31.size
        refine .v rfl rfl (.copyB (c := wi.heap.size) (o := 0) (dn := 128) (dc := 128) rfl B31 rfl R31 rfl rfl (by simp [put4_length])) ?_
        rintro _ w32 ⟨rfl, P32⟩
        have B32 : Blk w32 wi.heap.size 5 ((clearB (epochTo d 63 + 1)).map u8) := by rw [← clear_patch, ← log.patch_map _ _ _ 128 (by rw [put4_length]; omega)]; exact P32.blk
        have Y32 := (N27.ext.trans X31).then P32.ext (by rintro k rfl _; exact Nat.le_refl _)
        have z32 := P32.size
        have hcb := clearB_length (epochTo d 63 + 1)
        have O32 : Own tByte (fun _ => False) 5 w32 (.slice (some ⟨wi.heap.size, 0, none⟩) 128 128) (clearB (epochTo d 63 + 1)) wi.heap.size := by have := Own.ofBytes (Q := fun _ => False) B32 (by rw [hcb]; decide); rw [hcb] at this; exact this
        refine .nil (.code (.seq (.keep [(7, _)] ⟨rfl, trivial⟩ (.region ?_))))
        refine .p rfl rfl (.mv rfl) ?_
        refine .p rfl rfl (.build (cs := [i64 16, .slice (some ⟨wi.heap.size, 0, none⟩) 128 128]) rfl (fun _ => by kernel_rfl)) ?_
        refine .p rfl rfl (.build (cs := [.bool false, i64 16, .slice (some ⟨wi.heap.size, 0, none⟩) 128 128]) rfl (fun _ => by kernel_rfl)) ?_
        refine .p rfl rfl (.build (cs := [.bool true, i64 0, .slice none 0 0]) rfl (fun _ => by kernel_rfl)) ?_
        refine .v rfl rfl (.lits rfl rfl (fun _ => by kernel_rfl)) ?_
        rintro _ w37 ⟨rfl, N37⟩
        refine .p rfl rfl (.as rfl) ?_
        refine .p rfl rfl (.as rfl) ?_
        refine .nil (.code ?_)
        refine .ret _ rfl ?_
        rw [clear_good hth c26']
        have hOl : Own tActO (fun k => k = wi.heap.size) 96 w37 _ [⟨false, ⟨16, clearB (epochTo d 63 + 1)⟩⟩, ⟨true, ⟨0, []⟩⟩] w32.heap.size := Own.ofNew (n := 2) (cap := 2) N37 (.cons (tActO.mk (a := ⟨false, ⟨16, clearB (epochTo d 63 + 1)⟩⟩) (OwnB.of (P := fun k => k = wi.heap.size) O32 rfl) (by show (-9223372036854775808 : Int) ≤ 16 ∧ (16 : Int) ≤ 9223372036854775807; decide)) (.cons (tActO.mk (a := ⟨true, ⟨0, []⟩⟩) OwnO.nil (by show (-9223372036854775808 : Int) ≤ 0 ∧ (0 : Int) ≤ 9223372036854775807; decide)) .nil)) (by show 2 < Lim; decide) rfl rfl
        exact ⟨_, _, (fun k => k = w32.heap.size), rfl, OwnO.of hOl rfl, fun k hk => ⟨by have hk : k = wi.heap.size := hk; omega, fun e => by have hk : k = wi.heap.size := hk; have e : k = w32.heap.size := e; omega⟩, fun k hk => by have hk : k = w32.heap.size := hk; omega, X2.trans (hX.trans (Y32.trans N37.ext))⟩
end Go.Proofs.YthliepcjfnjnoaaGreatDoor
namespace Go.Proofs.YthliepcjfnjnoaaGreatDoor
open Go disk
namespace log
theorem get4_bytes (a b c e : UInt8) (l : Bs) : get4 (a :: b :: c :: e :: l) = UInt32.ofNat (a.toNat + b.toNat * 256 + c.toNat * 65536 + e.toNat * 16777216) := by
  have h : getTo [a, b, c, e, 0, 0, 0, 0] 8 = a.toNat + b.toNat * 256 + c.toNat * 65536 + e.toNat * 16777216 := by
    show ((((((((0 + a.toNat * 2 ^ (8 * 0)) + b.toNat * 2 ^ (8 * 1)) + c.toNat * 2 ^ (8 * 2)) + e.toNat * 2 ^ (8 * 3)) + 0 * 2 ^ (8 * 4)) + 0 * 2 ^ (8 * 5)) + 0 * 2 ^ (8 * 6)) + 0 * 2 ^ (8 * 7)) = _
    omega
  rw [← h]
  rfl
theorem get4_put4 (x : UInt32) (l : Bs) : get4 (put4 x ++ l) = x := by
  have h : put4 x = [byteOf x.toNat 0, byteOf x.toNat 1, byteOf x.toNat 2, byteOf x.toNat 3] := rfl
  rw [h]
  show get4 (_ :: _ :: _ :: _ :: l) = x
  rw [get4_bytes]
  apply UInt32.toNat_inj.1
  have hx := x.toNat_lt
  have e : ∀ i, (byteOf x.toNat i).toNat = x.toNat / 2 ^ (8 * i) % 256 := fun i => by unfold byteOf; simp [UInt8.toNat_ofNat']
  rw [e, e, e, e]
  simp only [UInt32.toNat_ofNat']
  omega
section
variable {E s p : UInt32} {r : Bs} {n i : Nat}
theorem sector_epoch : get4 (sectorOf E s p r n i) = E := by unfold sectorOf; simp only [List.append_assoc]; exact get4_put4 _ _
theorem sector_salt : get4 ((sectorOf E s p r n i).drop 4) = s := by
  unfold sectorOf; simp only [List.append_assoc]
  rw [List.drop_left' (put4_length E)]
  exact get4_put4 _ _
theorem sector_prev : get4 ((sectorOf E s p r n i).drop 8) = p := by
  unfold sectorOf; simp only [List.append_assoc]
  rw [show 8 = 4 + 4 from rfl, ← List.drop_drop, List.drop_left' (put4_length E), List.drop_left' (put4_length s)]
  exact get4_put4 _ _
theorem sector_tail : (sectorOf E s p r n i).drop 12 = [UInt8.ofNat i, UInt8.ofNat n, UInt8.ofNat (pieceOf r i).length, 0] ++ pieceOf r i ++ List.replicate (112 - (pieceOf r i).length) 0 := by
  unfold sectorOf; simp only [List.append_assoc]
  rw [show 12 = 4 + (4 + 4) from rfl, ← List.drop_drop, ← List.drop_drop, List.drop_left' (put4_length E), List.drop_left' (put4_length s), List.drop_left' (put4_length p)]
theorem getD_drop (l : Bs) (k j : Nat) : l.getD (k + j) 0 = (l.drop k).getD j 0 := by simp [List.getD_eq_getElem?_getD, List.getElem?_drop]
theorem sector_12 : (sectorOf E s p r n i).getD 12 0 = UInt8.ofNat i := by rw [getD_drop _ 12 0, sector_tail]; rfl
theorem sector_13 : (sectorOf E s p r n i).getD 13 0 = UInt8.ofNat n := by rw [getD_drop _ 12 1, sector_tail]; rfl
theorem sector_14 : (sectorOf E s p r n i).getD 14 0 = UInt8.ofNat (pieceOf r i).length := by rw [getD_drop _ 12 2, sector_tail]; rfl
theorem sector_16 : (sectorOf E s p r n i).drop 16 = pieceOf r i ++ List.replicate (112 - (pieceOf r i).length) 0 := by
  rw [show 16 = 12 + 4 from rfl, ← List.drop_drop, sector_tail]; rfl
theorem sector_cut : ((sectorOf E s p r n i).drop 16).take (cutOf (sectorOf E s p r n i)) = pieceOf r i := by
  have hp := piece_le r i
  have h : cutOf (sectorOf E s p r n i) = (pieceOf r i).length := by
    unfold cutOf
    rw [sector_14, UInt8.toNat_ofNat']
    omega
  rw [h, sector_16, List.take_left' rfl]
end
theorem pieces (r : Bs) : ∀ n, (List.range n).flatMap (pieceOf r) = r.take (112 * n)
  | 0 => by simp
  | n + 1 => by
    rw [List.range_succ, List.flatMap_append, pieces r n]
    simp only [List.flatMap_cons, List.flatMap_nil, List.append_nil, pieceOf]
    rw [Nat.mul_add, Nat.mul_one, List.take_add]
theorem needs_all {r : Bs} : r.length ≤ 112 * needs r.length := by unfold needs; omega
theorem needs_pos (n : Nat) : 1 ≤ needs n := by unfold needs; omega
def secs (f : Nat → Bs) (n : Nat) : Bs := (List.range n).flatMap f
theorem secs_succ (f : Nat → Bs) (n : Nat) : secs f (n + 1) = secs f n ++ f n := by unfold secs; rw [List.range_succ, List.flatMap_append]; simp
theorem secs_length {f : Nat → Bs} : ∀ {n : Nat}, (∀ i, i < n → (f i).length = 128) → (secs f n).length = n * 128
  | 0, _ => rfl
  | n + 1, h => by rw [secs_succ, List.length_append, secs_length (fun i hi => h i (by omega)), h n (by omega)]; omega
theorem secs_congr {f g : Nat → Bs} {n : Nat} (h : ∀ i, i < n → f i = g i) : secs f n = secs g n := by
  induction n with
  | zero => rfl
  | succ n ih => rw [secs_succ, secs_succ, ih (fun i hi => h i (by omega)), h n (by omega)]
theorem secs_add (f : Nat → Bs) (a m : Nat) : secs f (a + m) = secs f a ++ secs (fun i => f (a + i)) m := by
  induction m with
  | zero => simp [secs]
  | succ m ih => rw [← Nat.add_assoc, secs_succ, secs_succ, ih, List.append_assoc]
theorem secs_drop {f : Nat → Bs} {a m : Nat} (h : ∀ i, i < a → (f i).length = 128) : (secs f (a + m)).drop (a * 128) = secs (fun i => f (a + i)) m := by
  rw [secs_add, List.drop_left' (secs_length h)]
theorem secs_take {f : Nat → Bs} {a m : Nat} (h : ∀ i, i < a → (f i).length = 128) : (secs f (a + m)).take (a * 128) = secs f a := by
  rw [secs_add, List.take_left' (secs_length h)]
theorem secAt_secs {f : Nat → Bs} {n i : Nat} (h : ∀ i, i < n → (f i).length = 128) (hi : i < n) : secAt (secs f n) i = f i := by
  obtain ⟨m, rfl⟩ : ∃ m, n = i + (m + 1) := ⟨n - i - 1, by omega⟩
  unfold secAt
  rw [Nat.mul_comm, secs_drop (fun j hj => h j (by omega)), show m + 1 = 1 + m by omega, secs_add]
  have h0 := h i (by omega)
  rw [List.take_append_of_le_length (by simp [secs]; omega)]
  have e : secs (fun j => f (i + j)) 1 = f i := by simp [secs]
  rw [e, List.take_of_length_le (by omega)]
theorem frame_secs (E s p : UInt32) (r : Bs) (n k : Nat) : frameTo E s p r n k = secs (sectorOf E s p r n) k := rfl
theorem open_frame {E s p : UInt32} {r rest : Bs} (hE : ¬ E = 0) (hs : ¬ s = 0) (hr : r.length ≤ 4096) : openF E p (frameL E s p r ++ rest) = (r, s, needs r.length, 0) := by
  have hb := needs_bd hr
  have hl := frameL_length E s p r
  have h0 : (frameL E s p r ++ rest).take 128 = sectorOf E s p r (needs r.length) 0 := by
    have h := secAt_frame E s p r (needs r.length) (needs r.length) 0 (by omega)
    unfold secAt at h
    rw [Nat.mul_zero, List.drop_zero] at h
    rw [List.take_append_of_le_length (by omega)]
    exact h
  have h13 : ((frameL E s p r ++ rest).getD 13 0).toNat = needs r.length := by
    have e : (frameL E s p r ++ rest).getD 13 0 = ((frameL E s p r ++ rest).take 128).getD 13 0 := by simp [List.getD_eq_getElem?_getD, List.getElem?_take]
    rw [e, h0, sector_13, UInt8.toNat_ofNat']
    omega
  have h4 : get4 ((frameL E s p r ++ rest).drop 4) = s := by
    have e : get4 ((frameL E s p r ++ rest).drop 4) = get4 (((frameL E s p r ++ rest).take 128).drop 4) := by
      unfold get4
      rw [List.drop_take, List.take_take]
      rfl
    rw [e, h0, sector_salt]
  have ht : textTo (frameL E s p r ++ rest) (needs r.length) = r := by
    have e : textTo (frameL E s p r ++ rest) (needs r.length) = (List.range (needs r.length)).flatMap (pieceOf r) := by
      unfold textTo
      rw [List.flatMap_def, List.flatMap_def]
      congr 1
      refine List.map_congr_left (fun i hi => ?_)
      have hi := List.mem_range.1 hi
      have e : secAt (frameL E s p r ++ rest) i = sectorOf E s p r (needs r.length) i := by
        rw [← secAt_frame E s p r (needs r.length) (needs r.length) i hi]
        unfold secAt
        rw [List.drop_append_of_le_length (by omega), List.take_append_of_le_length (by rw [List.length_drop]; omega)]
        rfl
      rw [e]
      exact sector_cut
    rw [e, pieces, List.take_of_length_le needs_all]
  unfold openF
  rw [if_neg hE, if_neg (by rw [List.length_append]; omega), if_neg (by rw [h13, List.length_append]; omega), h13, h4, ht, frame_good hE hs hr, if_pos ⟨rfl, by rw [← hl, List.take_left' rfl]⟩]
theorem open_some {E p : UInt32} {b : Bs} (h : ¬ (openF E p b).2.2.1 = 0) : ∃ r s, openF E p b = (r, s, needs r.length, 0) ∧ ¬ E = 0 ∧ ¬ s = 0 ∧ r.length ≤ 4096 ∧ needs r.length * 128 ≤ b.length ∧ b.take (needs r.length * 128) = frameL E s p r := by
  unfold openF at h ⊢
  split at h
  · exact absurd rfl h
  · split at h
    · exact absurd rfl h
    · split at h
      · exact absurd rfl h
      · split at h
        · rename_i hE hL hN hF
          rw [if_neg hE, if_neg hL, if_neg hN, if_pos hF]
          generalize textTo b (b.getD 13 0).toNat = r at *
          generalize get4 (b.drop 4) = s at *
          obtain ⟨h1, h2⟩ := hF
          have hs : ¬ s = 0 := fun e => by unfold frameF at h1; rw [if_pos (.inr e)] at h1; cases h1
          have hr : r.length ≤ 4096 := by
            rcases Nat.lt_or_ge 4096 r.length with hh | hh
            · unfold frameF at h1; rw [if_neg (fun hh2 => hh2.elim hE hs), if_pos hh] at h1; cases h1
            · exact hh
          rw [frame_good hE hs hr] at h2
          have hl := congrArg List.length h2
          simp only at hl
          rw [frameL_length, List.length_take, Nat.min_eq_left (by omega)] at hl
          have hn : needs r.length = (b.getD 13 0).toNat := by omega
          exact ⟨r, s, by rw [hn], hE, hs, hr, by omega, by rw [hn]; exact h2.symm⟩
        · exact absurd rfl h
end log
end Go.Proofs.YthliepcjfnjnoaaGreatDoor
namespace Go.Proofs.YthliepcjfnjnoaaGreatDoor
open Go disk
namespace log
def sec (d : Disk) (q : Nat) : Bs := readF d ((17 + q : Nat) : Int)
theorem body_secs (d : Disk) (k : Nat) : bodyTo d k = secs (sec d) k := rfl
structure V (f : Nat → Bs) (E p : UInt32) (a : Nat) (r : Bs) (s : UInt32) : Prop where
  hE : ¬ E = 0
  hs : ¬ s = 0
  hr : r.length ≤ 4096
  fit : a + needs r.length ≤ 63
  at' : ∀ q, q < needs r.length → f (a + q) = sectorOf E s p r (needs r.length) q
def Stop (f : Nat → Bs) (E p : UInt32) (a : Nat) : Prop := ∀ r s, ¬ V f E p a r s
def tailB (f : Nat → Bs) (a : Nat) : Bs := secs (fun i => f (a + i)) (63 - a)
section
variable {f g N : Nat → Bs} {E p p' s : UInt32} {a a' : Nat} {r : Bs} {rs : List Bs}
theorem tailB_drop (hl : ∀ i, i < 63 → (f i).length = 128) {n : Nat} (h : a + n ≤ 63) : (tailB f a).drop (n * 128) = tailB f (a + n) := by
  unfold tailB
  rw [show 63 - a = n + (63 - (a + n)) by omega, secs_drop (fun i hi => hl _ (by omega))]
  exact secs_congr (fun i hi => by rw [Nat.add_assoc])
theorem tailB_length (hl : ∀ i, i < 63 → (f i).length = 128) : (tailB f a).length = (63 - a) * 128 := secs_length (fun i hi => hl _ (by omega))
theorem open_V (hl : ∀ i, i < 63 → (f i).length = 128) (h : V f E p a r s) : openF E p (tailB f a) = (r, s, needs r.length, 0) := by
  obtain ⟨hE, hs, hr, hf, hat⟩ := h
  have e : tailB f a = frameL E s p r ++ secs (fun i => f (a + (needs r.length + i))) (63 - (a + needs r.length)) := by
    unfold tailB
    rw [show 63 - a = needs r.length + (63 - (a + needs r.length)) by omega, secs_add]
    congr 1
    rw [frameL, frame_secs]
    exact secs_congr hat
  rw [e]
  exact open_frame hE hs hr
theorem V_open (hl : ∀ i, i < 63 → (f i).length = 128) (ha : a ≤ 63) (h : ¬ (openF E p (tailB f a)).2.2.1 = 0) : ∃ r s, V f E p a r s := by
  obtain ⟨r, s, h1, hE, hs, hr, hf, ht⟩ := open_some h
  rw [tailB_length hl] at hf
  have hfit : a + needs r.length ≤ 63 := by omega
  refine ⟨r, s, hE, hs, hr, hfit, fun q hq => ?_⟩
  have h2 : secAt (tailB f a) q = f (a + q) := secAt_secs (f := fun i => f (a + i)) (fun i hi => hl _ (by omega)) (by omega)
  have h3 : secAt (tailB f a) q = secAt ((tailB f a).take (needs r.length * 128)) q := by
    unfold secAt
    rw [List.drop_take, List.take_take, Nat.min_eq_left (by omega)]
  rw [← h2, h3, ht]
  exact secAt_frame _ _ _ _ _ _ _ hq
theorem open_stop (hl : ∀ i, i < 63 → (f i).length = 128) (ha : a ≤ 63) (h : Stop f E p a) : (openF E p (tailB f a)).2.2.1 = 0 := by
  refine Decidable.byContradiction (fun hh => ?_)
  obtain ⟨r, s, hv⟩ := V_open hl ha hh
  exact h r s hv
inductive Chain (f : Nat → Bs) (E : UInt32) : UInt32 → Nat → List Bs → UInt32 → Nat → Prop where
  | nil {p : UInt32} {a : Nat} : Chain f E p a [] p a
  | cons {p : UInt32} {a : Nat} {r : Bs} {s : UInt32} {rs : List Bs} {p' : UInt32} {a' : Nat} : V f E p a r s → Chain f E s (a + needs r.length) rs p' a' → Chain f E p a (r :: rs) p' a'
theorem Chain.le (h : Chain f E p a rs p' a') : a ≤ a' := by induction h with
  | nil => exact Nat.le_refl _
  | cons _ _ ih => omega
theorem Chain.congr (h : Chain f E p a rs p' a') (hg : ∀ q, a ≤ q → q < a' → g q = f q) : Chain g E p a rs p' a' := by induction h with
  | nil => exact .nil
  | cons hv hc ih =>
    have := hc.le
    exact .cons ⟨hv.hE, hv.hs, hv.hr, hv.fit, fun q hq => by rw [hg _ (by omega) (by omega)]; exact hv.at' q hq⟩ (ih (fun q h1 h2 => hg q (by omega) h2))
theorem Chain.append {rs2 : List Bs} {p2 : UInt32} {a2 : Nat} (h : Chain f E p a rs p' a') (h2 : Chain f E p' a' rs2 p2 a2) : Chain f E p a (rs ++ rs2) p2 a2 := by induction h with
  | nil => exact h2
  | cons hv _ ih => exact .cons hv (ih h2)
theorem scan_of (hl : ∀ i, i < 63 → (f i).length = 128) (h : Chain f E p a rs p' a') (hs : Stop f E p' a') : ∀ {k : Nat}, a ≤ 63 → 63 ≤ k + a → scan E k p (tailB f a) = (rs, p', a' - a) := by
  induction h with
  | nil =>
    intro k ha hk
    rw [scan_end (open_stop hl ha hs), Nat.sub_self]
  | @cons p a r s rs p' a' hv hc ih =>
    intro k ha hk
    have hn := needs_pos r.length
    have hf := hv.fit
    have hle := hc.le
    obtain ⟨k, rfl⟩ : ∃ j, k = j + 1 := ⟨k - 1, by omega⟩
    have ho := open_V hl hv
    rw [scan_more (by rw [ho]; show ¬ needs r.length = 0; omega), ho]
    show (r :: (scan E k s ((tailB f a).drop (needs r.length * 128))).1, (scan E k s ((tailB f a).drop (needs r.length * 128))).2.1, needs r.length + (scan E k s ((tailB f a).drop (needs r.length * 128))).2.2) = _
    rw [tailB_drop hl hf, ih hs hf (by omega)]
    show (r :: rs, p', needs r.length + (a' - (a + needs r.length))) = _
    rw [show needs r.length + (a' - (a + needs r.length)) = a' - a by omega]
theorem of_scan (hl : ∀ i, i < 63 → (f i).length = 128) : ∀ (k : Nat) {p : UInt32} {a : Nat}, a ≤ 63 → 63 ≤ k + a → ∃ rs p' a', Chain f E p a rs p' a' ∧ Stop f E p' a' ∧ a' ≤ 63 := by
  intro k
  induction k with
  | zero =>
    intro p a ha hk
    exact ⟨[], p, a, .nil, fun r s hv => by have := hv.fit; have := needs_pos r.length; omega, ha⟩
  | succ k ih =>
    intro p a ha hk
    by_cases h : ∃ r s, V f E p a r s
    · obtain ⟨r, s, hv⟩ := h
      have hn := needs_pos r.length
      obtain ⟨rs, p', a', h1, h2, h3⟩ := ih (p := s) hv.fit (by omega)
      exact ⟨r :: rs, p', a', .cons hv h1, h2, h3⟩
    · exact ⟨[], p, a, .nil, fun r s hv => h ⟨r, s, hv⟩, ha⟩
def tot : List Bs → Nat
  | [] => 0
  | r :: l => needs r.length + tot l
inductive Adds (f : Nat → Bs) (E : UInt32) (N : Nat → Bs) : UInt32 → Nat → List Bs → Prop where
  | nil {p : UInt32} {a : Nat} : Adds f E N p a []
  | cons {p : UInt32} {a : Nat} {r : Bs} {s : UInt32} {rs : List Bs} : V N E p a r s → (∀ q, a ≤ q → q < 63 → get4 (f q) = E → (get4 ((f q).drop 4)).toNat < s.toNat ∧ (get4 ((f q).drop 8)).toNat < s.toNat) → Adds f E N s (a + needs r.length) rs → Adds f E N p a (r :: rs)
theorem adds_idx {l : List Bs} (h : Adds f E N p a l) : ∀ q, a ≤ q → q < a + tot l → ∃ t, (N q).getD 12 0 = UInt8.ofNat t ∧ a + t ≤ q := by induction h with
  | nil => intro q h1 h2; simp [tot] at h2; omega
  | @cons p a r s rs hv _ _ ih =>
    intro q h1 h2
    rcases Nat.lt_or_ge q (a + needs r.length) with h3 | h3
    · refine ⟨q - a, ?_, by omega⟩
      have := hv.at' (q - a) (by omega)
      rw [show a + (q - a) = q by omega] at this
      rw [this, sector_12]
    · obtain ⟨t, h4, h5⟩ := ih q h3 (by simp only [tot] at h2; omega)
      exact ⟨t, h4, by omega⟩
theorem torn {l : List Bs} (h : Adds f E N p a l) (hg : ∀ q, a ≤ q → q < 63 → g q = f q ∨ (q < a + tot l ∧ g q = N q)) (hst : Stop f E p a ∨ ∀ q, a ≤ q → q < 63 → get4 (f q) = E → ¬ get4 ((f q).drop 8) = p) :
    ∃ m p' a', m ≤ l.length ∧ Chain g E p a (l.take m) p' a' ∧ Stop g E p' a' ∧ (∀ j, j ≤ l.length → (∀ q, a ≤ q → q < a + tot (l.take j) → g q = N q) → j ≤ m) ∧ a' = a + tot (l.take m) := by
  induction h with
  | @nil p a =>
    refine ⟨0, p, a, Nat.le_refl _, .nil, ?_, fun j hj _ => by simpa using hj, rfl⟩
    have hsame : ∀ q, a ≤ q → q < 63 → g q = f q := fun q h1 h2 => (hg q h1 h2).elim id (fun h => by have := h.1; simp [tot] at this; omega)
    intro r s hv
    have hn := needs_pos r.length
    have hfit := hv.fit
    rcases hst with h | h
    · exact h r s ⟨hv.hE, hv.hs, hv.hr, hv.fit, fun q hq => by rw [← hsame _ (by omega) (by omega)]; exact hv.at' q hq⟩
    · have h0 := hv.at' 0 (by omega)
      rw [Nat.add_zero, hsame a (Nat.le_refl _) (by omega)] at h0
      exact h a (Nat.le_refl _) (by omega) (by rw [h0, sector_epoch]) (by rw [h0, sector_prev])
  | @cons p a r s rs hv hold hrest ih =>
    have hfit := hv.fit
    have hn := needs_bd hv.hr
    by_cases hall : ∀ q, q < needs r.length → g (a + q) = N (a + q)
    · have hv' : V g E p a r s := ⟨hv.hE, hv.hs, hv.hr, hv.fit, fun q hq => by rw [hall q hq]; exact hv.at' q hq⟩
      obtain ⟨m, p', a', h1, h2, h3, h4, h5⟩ := ih (fun q h1 h2 => (hg q (by omega) h2).elim .inl (fun h => .inr ⟨by have := h.1; simp only [tot] at this; omega, h.2⟩))
        (.inr (fun q h1 h2 he hp => by have := (hold q (by omega) h2 he).2; rw [hp] at this; omega))
      refine ⟨m + 1, p', a', by simpa using h1, .cons hv' h2, h3, fun j hj hq => ?_, by rw [h5, List.take_succ_cons, tot]; omega⟩
      cases j with
      | zero => omega
      | succ j =>
        have := h4 j (by simpa using hj) (fun q h1 h2 => hq q (by omega) (by rw [List.take_succ_cons, tot]; omega))
        omega
    · refine ⟨0, p, a, Nat.zero_le _, .nil, ?_, fun j hj hq => ?_, rfl⟩
      · intro r' s' hv'
        have hfit' := hv'.fit
        have hn' := needs_bd hv'.hr
        have hg0 := hv'.at' 0 (by omega)
        rw [Nat.add_zero] at hg0
        rcases hg a (Nat.le_refl _) (by omega) with h0 | ⟨_, h0⟩
        · -- the first one is old
          have hf0 : f a = sectorOf E s' p r' (needs r'.length) 0 := by rw [← h0]; exact hg0
          have hs' : s'.toNat < s.toNat := by have := (hold a (Nat.le_refl _) (by omega) (by rw [hf0, sector_epoch])).1; rwa [hf0, sector_salt] at this
          rcases hst with hst | hst
          · refine hst r' s' ⟨hv'.hE, hv'.hs, hv'.hr, hv'.fit, fun q hq => ?_⟩
            rcases hg (a + q) (by omega) (by omega) with h1 | ⟨h1, h2⟩
            · rw [← h1]; exact hv'.at' q hq
            · exfalso
              have hq2 := hv'.at' q hq
              rw [h2] at hq2
              rcases Nat.lt_or_ge q (needs r.length) with h3 | h3
              · have h4 := hv.at' q h3
                rw [h4] at hq2
                have h5 := congrArg (fun l => get4 (l.drop 4)) hq2
                simp only [sector_salt] at h5
                rw [h5] at hs'
                omega
              · obtain ⟨t, h4, h5⟩ := adds_idx hrest (a + q) (by omega) (by simp only [tot] at h1; omega)
                rw [hq2, sector_12] at h4
                have h6 := congrArg UInt8.toNat h4
                rw [UInt8.toNat_ofNat', UInt8.toNat_ofNat'] at h6
                omega
          · exact hst a (Nat.le_refl _) (by omega) (by rw [hf0, sector_epoch]) (by rw [hf0, sector_prev])
        · -- the first one is new
          have hN0 := hv.at' 0 (by omega)
          rw [Nat.add_zero, ← h0, hg0] at hN0
          have e13 := congrArg (fun l => (l.getD 13 0).toNat) hN0
          simp only [sector_13, UInt8.toNat_ofNat'] at e13
          have es := congrArg (fun l => get4 (l.drop 4)) hN0
          simp only [sector_salt] at es
          refine hall (fun q hq => ?_)
          rcases hg (a + q) (by omega) (by omega) with h1 | ⟨_, h1⟩
          · exfalso
            have hq2 := hv'.at' q (by omega)
            rw [h1] at hq2
            have := (hold (a + q) (by omega) (by omega) (by rw [hq2, sector_epoch])).1
            rw [hq2, sector_salt, es] at this
            omega
          · exact h1
      · cases j with
        | zero => exact Nat.le_refl _
        | succ j => exact absurd (fun q hq2 => hq (a + q) (by omega) (by rw [List.take_succ_cons, tot]; omega)) hall
end
section
variable {d : Disk}
theorem sec_length (h : checkF d = 0) (hc : 80 ≤ d.count) : ∀ i, i < 63 → (sec d i).length = 128 := fun i hi => readF_length h (by omega) (by omega)
theorem state_of {rs : List Bs} {p : UInt32} {a : Nat} (h : thereF d = 0) (h2 : ¬ headF d = 0) (hc : Chain (sec d) (headF d) 0 0 rs p a) (hs : Stop (sec d) (headF d) p a) : stateF d = (⟨headF d, p, rs, a⟩, 0) := by
  obtain ⟨h3, h4⟩ := there_ok h
  rw [state_good h h2, scanD_eq]
  have e : bodyTo d 63 = tailB (sec d) 0 := secs_congr (fun i _ => by rw [Nat.zero_add]; rfl)
  rw [e, scan_of (sec_length h3 h4) hc hs (Nat.zero_le _) (by rw [fu_eq]; omega), Nat.sub_zero]
theorem state_chain (h : (stateF d).2 = 0) : thereF d = 0 ∧ ¬ headF d = 0 ∧ (stateF d).1.epoch = headF d ∧ Chain (sec d) (headF d) 0 0 (stateF d).1.recs (stateF d).1.last (stateF d).1.at' ∧ Stop (sec d) (headF d) (stateF d).1.last (stateF d).1.at' ∧ (stateF d).1.at' ≤ 63 := by
  obtain ⟨h1, h2, h3, h4, h5, h6⟩ := state_ok h
  obtain ⟨rs, p, a, c1, c2, c3⟩ := of_scan (E := headF d) (sec_length h2 h3) 63 (p := 0) (a := 0) (Nat.zero_le _) (by omega)
  have e := state_of h1 h4 c1 c2
  rw [e]
  exact ⟨h1, h4, rfl, c1, c2, c3⟩
theorem saltTo_ge (E : UInt32) (a : Nat) : ∀ (k q : Nat), a ≤ q → q < a + k → get4 (sec d q) = E → (get4 ((sec d q).drop 4)).toNat ≤ (saltTo d E a k).toNat ∧ (get4 ((sec d q).drop 8)).toNat ≤ (saltTo d E a k).toNat
  | 0, q, h1, h2, _ => by omega
  | k + 1, q, h1, h2, h3 => by
    rw [saltTo_succ]
    rcases Nat.lt_or_ge q (a + k) with h4 | h4
    · have h5 := saltTo_ge E a k q h1 h4 h3
      by_cases he : get4 (readF d ((17 + (a + k) : Nat) : Int)) = E
      · rw [saltStep_T he, u32_max_nat, u32_max_nat]; omega
      · rw [saltStep_F he]; exact h5
    · obtain rfl : q = a + k := by omega
      have h3' : get4 (readF d ((17 + (a + k) : Nat) : Int)) = E := h3
      rw [saltStep_T h3', u32_max_nat, u32_max_nat]
      unfold sec
      omega
theorem epochTo_ge : ∀ (k : Nat), (headF d).toNat ≤ (epochTo d k).toNat ∧ ∀ q, q < k → (get4 (sec d q)).toNat ≤ (epochTo d k).toNat
  | 0 => ⟨Nat.le_refl _, fun q hq => absurd hq (Nat.not_lt_zero _)⟩
  | k + 1 => by
    obtain ⟨h1, h2⟩ := epochTo_ge k
    have e : epochTo d (k + 1) = max (epochTo d k) (get4 (sec d k)) := rfl
    rw [e, u32_max_nat]
    refine ⟨by omega, fun q hq => ?_⟩
    rcases Nat.lt_or_ge q k with h3 | h3
    · have := h2 q h3; omega
    · obtain rfl : q = k := by omega
      omega
end
end log
end Go.Proofs.YthliepcjfnjnoaaGreatDoor
namespace Go.Proofs.YthliepcjfnjnoaaGreatDoor
open Go disk
namespace log
theorem headF_congr {d x : Disk} (h : readF x 16 = readF d 16) : headF x = headF d := by unfold headF headN; rw [h]
theorem there_of {x : Disk} (h : checkF x = 0) (h2 : 80 ≤ x.count) : thereF x = 0 := by unfold thereF; rw [if_neg (fun hh => hh h), if_neg (by omega)]
theorem do_snoc {d x : Disk} {l : List disk.Act} (h : doF d l = (x, 0)) (a : disk.Act) : doF d (l ++ [a]) = doF x [a] := doF_first_ok h
theorem do_put {x : Disk} {n : Int} {b : Bs} (h : checkF x = 0) (h1 : 0 ≤ n) (h2 : n < x.count) (h3 : b.length = 128) (h4 : x.waits.length < 4096) : doF x [⟨false, n, b⟩] = ({ x with waits := x.waits ++ [⟨n, b⟩] }, 0) := by
  unfold doF
  rw [if_neg (by simp [h]), doN, if_neg (show ¬ false = true by decide), if_neg (show ¬ (n < 0 ∨ x.count ≤ n) by omega), if_neg (show ¬ ¬ ((b.length : Nat) : Int) = 128 by rw [h3]; decide), if_neg (show ¬ 4096 ≤ x.waits.length by omega), doN]
theorem do_acts {d : Disk} (hc : checkF d = 0) (b : Bs) (n : Nat) : ∀ k : Nat, (∀ i, i < k → ((b.drop (i * 128)).take 128).length = 128) → ((n + k : Nat) : Int) ≤ d.count → d.waits.length + k ≤ 4096 →
    ∃ x, doF d (actsTo n b k) = (x, 0) ∧ checkF x = 0 ∧ x.count = d.count ∧ x.waits.length = d.waits.length + k ∧ x.data = d.data ∧ (∀ m : Nat, readF x (m : Int) = if n ≤ m ∧ m < n + k then (b.drop ((m - n) * 128)).take 128 else readF d (m : Int))
  | 0, _, _, _ => ⟨d, by unfold doF actsTo; rw [if_neg (by simp [hc])]; rfl, hc, rfl, rfl, rfl, fun m => by rw [if_neg (by omega)]⟩
  | k + 1, h1, h2, h3 => by
    obtain ⟨x, e1, e2, e3, e4, e5, e6⟩ := do_acts hc b n k (fun i hi => h1 i (by omega)) (by omega) (by omega)
    have hp := do_put (x := x) (n := ((n + k : Nat) : Int)) (b := (b.drop (k * 128)).take 128) e2 (by omega) (by omega) (h1 k (by omega)) (by omega)
    refine ⟨_, by rw [actsTo_succ, do_snoc e1]; exact hp, check_put e2 (by omega) ⟨by show 0 ≤ ((n + k : Nat) : Int); omega, by show ((n + k : Nat) : Int) < _; omega, h1 k (by omega)⟩, e3, ?_, e5, fun m => ?_⟩
    · show (x.waits ++ [_]).length = _
      simp [e4]; omega
    · by_cases hm : m = n + k
      · subst hm
        rw [readF_put_same, if_pos (by omega), show n + k - n = k by omega]
      · rw [readF_put_other (by omega), e6]
        by_cases hh : n ≤ m ∧ m < n + k
        · rw [if_pos hh, if_pos (by omega)]
        · rw [if_neg hh, if_neg (by omega)]
theorem frame_at {E s p : UInt32} {r : Bs} {i : Nat} (hi : i < needs r.length) : ((frameL E s p r).drop (i * 128)).take 128 = sectorOf E s p r (needs r.length) i := by
  rw [Nat.mul_comm]
  exact secAt_frame E s p r (needs r.length) (needs r.length) i hi
theorem add_ok {d : Disk} {r : Bs} (h : (addF d r).2 = 0) : (stateF d).2 = 0 ∧ r.length ≤ 4096 ∧ (stateF d).1.at' + needs r.length ≤ 63 ∧ ¬ saltF d (stateF d).1.epoch (stateF d).1.at' = 4294967295 ∧
    (addF d r).1 = actsTo (17 + (stateF d).1.at') (frameL (stateF d).1.epoch (saltF d (stateF d).1.epoch (stateF d).1.at' + 1) (stateF d).1.last r) (needs r.length) := by
  by_cases h1 : (stateF d).2 = 0
  · by_cases h2 : 4096 < r.length
    · rw [add_long h1 h2] at h; cases h
    · by_cases h3 : 63 < (stateF d).1.at' + needs r.length
      · rw [add_full h1 h2 h3] at h; cases h
      · by_cases h4 : saltF d (stateF d).1.epoch (stateF d).1.at' = 4294967295
        · rw [add_salt h1 h2 h3 h4] at h; cases h
        · exact ⟨h1, by omega, by omega, h4, by rw [add_good h1 h2 h3 h4]⟩
  · rw [add_err h1] at h; exact absurd h h1
theorem add_V {d : Disk} {r : Bs} (h : (addF d r).2 = 0) : ∃ s, ¬ s = 0 ∧ r.length ≤ 4096 ∧ (stateF d).1.at' + needs r.length ≤ 63 ∧ (addF d r).1 = actsTo (17 + (stateF d).1.at') (frameL (stateF d).1.epoch s (stateF d).1.last r) (needs r.length) ∧
    (∀ q, (stateF d).1.at' ≤ q → q < 63 → get4 (sec d q) = (stateF d).1.epoch → (get4 ((sec d q).drop 4)).toNat < s.toNat ∧ (get4 ((sec d q).drop 8)).toNat < s.toNat) := by
  obtain ⟨h1, h2, h3, h4, h5⟩ := add_ok h
  obtain ⟨h6, h7⟩ := u32_succ_ne h4
  refine ⟨_, h6, h2, h3, h5, fun q hq1 hq2 hq3 => ?_⟩
  have := saltTo_ge (d := d) (stateF d).1.epoch (stateF d).1.at' (63 - (stateF d).1.at') q hq1 (by omega) hq3
  rw [h7]
  unfold saltF
  omega
theorem grows {d : Disk} {r : Bs} (h : (addF d r).2 = 0) (hw : d.waits.length ≤ 4000) :
    ∃ x s, doF d (addF d r).1 = (x, 0) ∧ checkF x = 0 ∧ x.count = d.count ∧ x.waits.length ≤ d.waits.length + 37 ∧ readF x 16 = readF d 16 ∧
      stateF x = (⟨(stateF d).1.epoch, s, (stateF d).1.recs ++ [r], (stateF d).1.at' + needs r.length⟩, 0) ∧ ¬ s = 0 ∧
      (∀ q, sec x q = if (stateF d).1.at' ≤ q ∧ q < (stateF d).1.at' + needs r.length then sectorOf (stateF d).1.epoch s (stateF d).1.last r (needs r.length) (q - (stateF d).1.at') else sec d q) ∧
      (∀ q, (stateF d).1.at' ≤ q → q < 63 → get4 (sec d q) = (stateF d).1.epoch → (get4 ((sec d q).drop 4)).toNat < s.toNat ∧ (get4 ((sec d q).drop 8)).toNat < s.toNat) ∧
      (addF d r).1 = actsTo (17 + (stateF d).1.at') (frameL (stateF d).1.epoch s (stateF d).1.last r) (needs r.length) ∧ r.length ≤ 4096 ∧ (stateF d).1.at' + needs r.length ≤ 63 := by
  obtain ⟨s, hs, hr, hfit, ha, hold⟩ := add_V h
  obtain ⟨hst, _⟩ := add_ok h
  obtain ⟨hth, hh, he, hch, hsp, h63⟩ := state_chain hst
  obtain ⟨hck, hct⟩ := there_ok hth
  have hn := needs_bd hr
  obtain ⟨x, x1, x2, x3, x4, x5, x6⟩ := do_acts hck (frameL (stateF d).1.epoch s (stateF d).1.last r) (17 + (stateF d).1.at') (needs r.length) (fun i hi => by rw [frame_at hi, sectorOf_length]) (by omega) (by omega)
  have hsec : ∀ q, sec x q = if (stateF d).1.at' ≤ q ∧ q < (stateF d).1.at' + needs r.length then sectorOf (stateF d).1.epoch s (stateF d).1.last r (needs r.length) (q - (stateF d).1.at') else sec d q := by
    intro q
    unfold sec
    rw [x6]
    by_cases hq : (stateF d).1.at' ≤ q ∧ q < (stateF d).1.at' + needs r.length
    · rw [if_pos (by omega), if_pos hq, show 17 + q - (17 + (stateF d).1.at') = q - (stateF d).1.at' by omega, frame_at (by omega)]
    · rw [if_neg (by omega), if_neg hq]
  have h16 : readF x 16 = readF d 16 := by have := x6 16; rw [if_neg (by omega)] at this; exact this
  refine ⟨x, s, by rw [ha]; exact x1, x2, x3, by omega, h16, ?_, hs, hsec, hold, ha, hr, hfit⟩
  have hE : ¬ (stateF d).1.epoch = 0 := by rw [he]; exact hh
  have hAdds : Adds (sec d) (stateF d).1.epoch (sec x) (stateF d).1.last (stateF d).1.at' [r] :=
    .cons ⟨hE, hs, hr, hfit, fun q hq => by rw [hsec, if_pos (by omega), show (stateF d).1.at' + q - (stateF d).1.at' = q by omega]⟩ hold .nil
  have htot : tot [r] = needs r.length := by simp [tot]
  obtain ⟨m, p', a', t1, t2, t3, t4, t5⟩ := torn (g := sec x) hAdds (fun q h1 h2 => by
    by_cases hq : q < (stateF d).1.at' + needs r.length
    · exact .inr ⟨by rw [htot]; exact hq, rfl⟩
    · exact .inl (by rw [hsec, if_neg (by omega)])) (.inl (by rw [he]; exact hsp))
  obtain rfl : m = 1 := by have := t4 1 (Nat.le_refl _) (fun q _ _ => rfl); simp at t1; omega
  have hc0 : Chain (sec x) (stateF d).1.epoch 0 0 (stateF d).1.recs (stateF d).1.last (stateF d).1.at' := by
    rw [he]; exact hch.congr (fun q _ h2 => by rw [hsec, if_neg (by omega)])
  have hx : headF x = (stateF d).1.epoch := by rw [headF_congr h16, he]
  have hfin := state_of (there_of x2 (by rw [x3]; exact hct)) (by rw [hx]; exact hE) (by rw [hx]; exact hc0.append t2) (by rw [hx]; exact t3)
  rw [hfin, hx, t5]
  cases t2 with
  | cons hv hc =>
    cases hc with
    | nil =>
      have e0 := hv.at' 0 (by omega)
      rw [Nat.add_zero, hsec, if_pos (by omega), Nat.sub_self] at e0
      have es := congrArg (fun l => get4 (l.drop 4)) e0
      simp only [sector_salt] at es
      rw [← es]
      simp [htot]
theorem getTo_4 (a b c e : UInt8) : getTo [a, b, c, e, 0, 0, 0, 0] 8 = a.toNat + b.toNat * 256 + c.toNat * 65536 + e.toNat * 16777216 := by
  show ((((((((0 + a.toNat * 2 ^ (8 * 0)) + b.toNat * 2 ^ (8 * 1)) + c.toNat * 2 ^ (8 * 2)) + e.toNat * 2 ^ (8 * 3)) + 0 * 2 ^ (8 * 4)) + 0 * 2 ^ (8 * 5)) + 0 * 2 ^ (8 * 6)) + 0 * 2 ^ (8 * 7)) = _
  omega
theorem head_of {x : Disk} {e : UInt32} (h : readF x 16 = clearB e) : headF x = e := by
  have h4 := get4_put4 e []
  rw [List.append_nil] at h4
  obtain ⟨a, b, c, f, hp⟩ := four (put4_length e)
  have hb : headN x = a.toNat + b.toNat * 256 + c.toNat * 65536 + f.toNat * 16777216 := by
    unfold headN
    rw [h, show (clearB e).take 8 = put4 e ++ [0, 0, 0, 0] by unfold clearB; rw [hp]; rfl, hp]
    exact getTo_4 a b c f
  rw [hp, get4_bytes] at h4
  have ha := a.toNat_lt
  have hb' := b.toNat_lt
  have hc := c.toNat_lt
  have hf := f.toNat_lt
  unfold headF
  rw [if_pos ⟨by rw [hb]; omega, by rw [h]; unfold clearB; rw [hp]; rfl⟩, hb]
  exact h4
theorem state_fresh {x : Disk} {e : UInt32} (hck : checkF x = 0) (hct : 80 ≤ x.count) (h : headF x = e) (he : ¬ e = 0) (hall : ¬ get4 (sec x 0) = e) : stateF x = (⟨e, 0, [], 0⟩, 0) := by
  subst h
  refine state_of (there_of hck hct) he .nil (fun r s hv => ?_)
  have h0 := hv.at' 0 (by have := needs_pos r.length; omega)
  rw [Nat.add_zero] at h0
  exact hall (by rw [h0, sector_epoch])
theorem clear_ok {d : Disk} (h : (clearF d).2 = 0) : thereF d = 0 ∧ ¬ epochTo d 63 = 4294967295 ∧ (clearF d).1 = [⟨false, ⟨16, clearB (epochTo d 63 + 1)⟩⟩, ⟨true, ⟨0, []⟩⟩] := by
  by_cases h1 : thereF d = 0
  · by_cases h2 : epochTo d 63 = 4294967295
    · rw [clear_full h1 h2] at h; cases h
    · exact ⟨h1, h2, by rw [clear_good h1 h2]⟩
  · rw [clear_err h1] at h; exact absurd h h1
theorem empties {d : Disk} (h : (clearF d).2 = 0) (hw : d.waits.length ≤ 4000) : ∃ x, doF d (clearF d).1 = (x, 0) ∧ checkF x = 0 ∧ x.count = d.count ∧ x.waits = [] ∧ stateF x = (⟨epochTo d 63 + 1, 0, [], 0⟩, 0) ∧ (headF d).toNat < (epochTo d 63 + 1).toNat := by
  obtain ⟨h1, h2, h3⟩ := clear_ok h
  obtain ⟨hck, hct⟩ := there_ok h1
  obtain ⟨h4, h5⟩ := u32_succ_ne h2
  have hp := do_put (x := d) (n := 16) (b := clearB (epochTo d 63 + 1)) hck (by omega) (by omega) (clearB_length _) (by omega)
  have hc2 := check_put (p := ⟨16, clearB (epochTo d 63 + 1)⟩) hck (by omega) ⟨by show (0 : Int) ≤ 16; decide, by show (16 : Int) < d.count; omega, clearB_length _⟩
  obtain ⟨g1, g2⟩ := epochTo_ge (d := d) 63
  have hr : ∀ n : Int, 0 ≤ n → n < d.count → readF (settleD { d with waits := d.waits ++ [⟨16, clearB (epochTo d 63 + 1)⟩] } (fun _ => true)) n = readF { d with waits := d.waits ++ [⟨16, clearB (epochTo d 63 + 1)⟩] } n := fun n n1 n2 => by
    rw [readF_settle]; exact flush_read hc2 n1 n2
  refine ⟨_, ?_, check_settle hc2 (fun _ => true), rfl, rfl, ?_, by rw [h5]; omega⟩
  · rw [h3, show ([⟨false, ⟨16, clearB (epochTo d 63 + 1)⟩⟩, ⟨true, ⟨0, []⟩⟩] : List disk.Act) = [⟨false, ⟨16, clearB (epochTo d 63 + 1)⟩⟩] ++ [⟨true, ⟨0, []⟩⟩] from rfl, do_snoc hp]
    exact flush_ok hc2
  · refine state_fresh (check_settle hc2 (fun _ => true)) hct (head_of (by rw [hr 16 (by omega) (by omega), readF_put_same])) h4 (fun hg => ?_)
    have e : sec (settleD { d with waits := d.waits ++ [⟨16, clearB (epochTo d 63 + 1)⟩] } (fun _ => true)) 0 = sec d 0 := by
      unfold sec
      rw [hr _ (by omega) (by omega), readF_put_other (by decide)]
    rw [e] at hg
    have := g2 0 (by omega)
    rw [hg, h5] at this
    omega
theorem new_zero {c : Nat} (h1 : 1 ≤ c) (h2 : c ≤ 4096) : newF (c : Int) = (⟨c, List.replicate (c * 128) 0, []⟩, 0) ∧ checkF ⟨c, List.replicate (c * 128) 0, []⟩ = 0 := by
  refine ⟨by unfold newF; rw [if_neg (by omega)]; rfl, check_of (by show (1 : Int) ≤ c; omega) (by show (c : Int) ≤ 4096; omega) (by show ((List.replicate (c * 128) (0 : UInt8)).length : Int) = (c : Int) * 128; rw [List.length_replicate]; omega) (Nat.zero_le _) (fun p hp => by cases hp)⟩
def Z100 : Disk := ⟨100, List.replicate (100 * 128) 0, []⟩
theorem z100 : newF 100 = (Z100, 0) ∧ checkF Z100 = 0 := new_zero (c := 100) (by omega) (by omega)
theorem zero_clear : List.replicate 128 0 = clearB 0 := by
  unfold clearB
  rw [show put4 0 = List.replicate 4 0 from rfl, List.replicate_append_replicate]
end log
end Go.Proofs.YthliepcjfnjnoaaGreatDoor
