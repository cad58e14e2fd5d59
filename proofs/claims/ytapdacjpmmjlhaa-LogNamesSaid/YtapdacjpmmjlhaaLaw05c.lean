
/-
  The statements of chapter 05: an empty log; a record added and read.
-/
import Derived.Test.YtapdacjpmmjlhaaLaw05b
import Derived.Test.YtapdacjpmmjlhaaLogActs
set_option linter.unusedVariables false
set_option linter.unusedSimpArgs false
set_option maxRecDepth 20000
namespace Go.Proofs.Ytapdacjpmmjlhaa
open Go disk log
namespace log
theorem x1_ex : ∃ x, doF Z100 (clearF Z100).1 = (x, 0) ∧ checkF x = 0 ∧ x.count = 100 ∧ x.waits = [] ∧ stateF x = (⟨1, 0, [], 0⟩, 0) := by
  obtain ⟨x, h1, h2, h3, h4, h5, _⟩ := empties (d := Z100) (by rw [z100_clear]) (Nat.zero_le _)
  rw [z100_epoch 63 (Nat.le_refl _)] at h5
  exact ⟨x, h1, h2, h3, h4, h5⟩
noncomputable def Y100 : Disk := Classical.choose x1_ex
theorem x1_do : doF Z100 (clearF Z100).1 = (Y100, 0) := (Classical.choose_spec x1_ex).1
theorem x1_check : checkF Y100 = 0 := (Classical.choose_spec x1_ex).2.1
theorem x1_count : Y100.count = 100 := (Classical.choose_spec x1_ex).2.2.1
theorem x1_waits : Y100.waits = [] := (Classical.choose_spec x1_ex).2.2.2.1
theorem x1_state : stateF Y100 = (⟨1, 0, [], 0⟩, 0) := (Classical.choose_spec x1_ex).2.2.2.2
theorem x1_salt (h : ∀ q, q < 63 → get4 (sec Y100 q) = 0) : saltF Y100 1 0 = 0 := by
  have : ∀ k, k ≤ 63 → saltTo Y100 1 0 k = 0 := by
    intro k
    induction k with
    | zero => intro _; rfl
    | succ k ih =>
      intro hk
      rw [saltTo_succ, saltStep_F (fun e => by have := h (0 + k) (by omega); unfold sec at this; rw [e] at this; exact absurd this (by decide)), ih (by omega)]
  exact this 63 (Nat.le_refl _)
theorem x1_sec : ∀ q, q < 63 → sec Y100 q = List.replicate 128 0 := by
  intro q hq
  have h := x1_do
  rw [z100_clear, show ([⟨false, ⟨16, clearB 1⟩⟩, ⟨true, ⟨0, []⟩⟩] : List disk.Act) = [⟨false, ⟨16, clearB 1⟩⟩] ++ [⟨true, ⟨0, []⟩⟩] from rfl, do_snoc (do_put (x := Z100) (n := 16) (b := clearB 1) z100.2 (by omega) (by show (16 : Int) < 100; decide) (clearB_length _) (by show 0 < 4096; decide))] at h
  have hc2 := check_put (p := ⟨16, clearB 1⟩) z100.2 (by show 0 < 4096; decide) ⟨by show (0 : Int) ≤ 16; decide, by show (16 : Int) < 100; decide, clearB_length _⟩
  rw [show doF { Z100 with waits := Z100.waits ++ [⟨16, clearB 1⟩] } [⟨true, ⟨0, []⟩⟩] = _ from flush_ok hc2] at h
  have e := (Prod.mk.inj h).1
  unfold sec
  rw [← e, readF_settle, flush_read hc2 (by omega) (by show _ < (100 : Int); omega), readF_put_other (by omega), z100_read (by omega) (by omega)]
def abc : Bs := [97, 98, 99]
theorem x1_add {r : Bs} (hr : r.length ≤ 4096) : addF Y100 r = (actsTo 17 (frameL 1 1 0 r) (needs r.length), 0) := by
  have hn := needs_bd hr
  have hs : saltF Y100 1 0 = 0 := x1_salt (fun q hq => by rw [x1_sec q hq]; exact get4_zero)
  have h := add_good (d := Y100) (r := r) (by rw [x1_state]) (by omega) (by rw [x1_state]; show ¬ 63 < 0 + needs r.length; omega) (by rw [x1_state]; show ¬ saltF Y100 1 0 = 4294967295; rw [hs]; decide)
  rw [x1_state] at h
  show addF Y100 r = _
  rw [h]
  show (actsTo (17 + 0) (frameL 1 (saltF Y100 1 0 + 1) 0 r) (needs r.length), (0 : Int)) = _
  rw [hs]
  rfl
theorem x2_ex {r : Bs} (hr : r.length ≤ 4096) : ∃ x s, doF Y100 (addF Y100 r).1 = (x, 0) ∧ stateF x = (⟨1, s, [r], needs r.length⟩, 0) ∧ x.waits.length ≤ 37 := by
  obtain ⟨x, s, h1, h2, h3, h4, h5, h6, _⟩ := grows (d := Y100) (r := r) (by rw [x1_add hr]) (by rw [x1_waits]; exact Nat.zero_le _)
  rw [x1_state] at h6
  rw [x1_waits] at h4
  refine ⟨x, s, h1, ?_, by simpa using h4⟩
  rw [h6]
  simp
end log
theorem cleared_fn {w : World} : Fn Try.prog 32 [i64 100] w (fun r w2 => ∃ v', r = .tuple #[v', .bool true] ∧ tDisk.rep (fun k => w.heap.size ≤ k) w2 v' Y100 ∧ Ext (fun _ => False) w w2) := by
  refine Fn.enter (fun w => Try.call32 _ w) Try.func32 rfl ?_
  refine .seq (.region ?_)
  refine .v rfl rfl (.alloc rfl rfl) ?_
  rintro _ w2 ⟨rfl, N2⟩
  have X2 := N2.ext
  have z2 := N2.size
  have B2 := N2.blk
  refine .p rfl rfl (.as rfl) ?_
  refine .nil (.code (.seq (.keep [(2, _), (0, _)] ⟨rfl, rfl, trivial⟩ (.region ?_))))
  refine .p rfl rfl (.mv rfl) ?_
  refine .call (first := []) (captured := []) rfl rfl rfl rfl (New_fn (n := 100)) ?_
  rintro _ w12 ⟨v12, rfl, R12, X12⟩
  have z12 := X12.size
  rw [z100.1] at R12 ⊢
  obtain ⟨x1, y1, x2, y2, rfl⟩ := disk_shape R12
  refine .p rfl rfl (.mv rfl) ?_
  refine .p rfl rfl (.extract rfl rfl) ?_
  refine .p rfl rfl (.extract rfl rfl) ?_
  refine .v rfl rfl (.alloc rfl rfl) ?_
  rintro _ wn4 ⟨rfl, N4⟩
  refine .s rfl (.storeAll (n := 3) rfl rfl rfl rfl rfl N4.blk rfl) ?_
  intro w4 P4
  have X4 := N4.ext.then P4.ext (by rintro k rfl _; exact Nat.le_refl _)
  have z4 := X4.size
  have B4 := P4.blk
  have l4 := B4.lt
  clear N4 P4
  refine .p rfl rfl (.as rfl) ?_
  refine .nil (.code (.seq (.keep [(5, _), (4, _), (2, _)] ⟨rfl, rfl, rfl, trivial⟩ (.region ?_))))
  refine .p rfl rfl (.loadA (n := 3) rfl rfl rfl rfl rfl (B4.ext (S := fun _ => False) (by repeat (first | exact Ext.refl _ | assumption | refine Ext.trans (by assumption) ?_)) (fun x => x)).cells) ?_
  refine .call (first := []) (captured := []) rfl rfl rfl rfl (Clear_fn (d := Z100) (allOf (tDisk.ext0 R12 (by repeat (first | exact Ext.refl _ | assumption | refine Ext.trans (by assumption) ?_))))) ?_
  rintro _ w17 ⟨v17, Q17, A17, rfl, G17, hQ17, hB17, X17⟩
  have z17 := X17.size
  refine .p rfl rfl (.mv rfl) ?_
  refine .p rfl rfl (.extract rfl rfl) ?_
  refine .p rfl rfl (.extract rfl rfl) ?_
  refine .p rfl rfl (.as rfl) ?_
  refine .p rfl rfl (.as rfl) ?_
  refine .nil (.code (.seq (.keep [(7, _), (6, _), (5, _), (4, _), (2, _)] ⟨rfl, rfl, rfl, rfl, rfl, trivial⟩ (.region ?_))))
  refine .p rfl rfl (.loadA (n := 3) rfl rfl rfl rfl rfl (B4.ext (S := fun _ => False) (by repeat (first | exact Ext.refl _ | assumption | refine Ext.trans (by assumption) ?_)) (fun x => x)).cells) ?_
  refine .p rfl rfl (.mv rfl) ?_
  refine .call (first := []) (captured := []) rfl rfl rfl rfl (Do_fn (d := Z100) (l := (clearF Z100).1) (allOf (tDisk.ext0 R12 (by repeat (first | exact Ext.refl _ | assumption | refine Ext.trans (by assumption) ?_)))) (actsOwn G17)) ?_
  rintro _ w23 ⟨v23, rfl, D23, X23⟩
  have z23 := X23.size
  rw [x1_do] at D23 ⊢
  obtain ⟨x3, y3, x4, y4, rfl⟩ := D23.val
  refine .p rfl rfl (.mv rfl) ?_
  refine .p rfl rfl (.extract rfl rfl) ?_
  refine .p rfl rfl (.extract rfl rfl) ?_
  refine .v rfl rfl (.alloc rfl rfl) ?_
  rintro _ wn8 ⟨rfl, N8⟩
  refine .s rfl (.storeAll (n := 3) rfl rfl rfl rfl rfl N8.blk rfl) ?_
  intro w8 P8
  have X8 := N8.ext.then P8.ext (by rintro k rfl _; exact Nat.le_refl _)
  have z8 := X8.size
  have B8 := P8.blk
  have l8 := B8.lt
  clear N8 P8
  refine .p rfl rfl (.as rfl) ?_
  refine .nil (.code (.seq (.keep [(9, _), (8, _), (7, _), (5, _), (2, _)] ⟨rfl, rfl, rfl, rfl, rfl, trivial⟩ (.region ?_))))
  refine .p rfl rfl (.loadA (n := 3) rfl rfl rfl rfl rfl (B8.ext (S := fun _ => False) (by repeat (first | exact Ext.refl _ | assumption | refine Ext.trans (by assumption) ?_)) (fun x => x)).cells) ?_
  refine .p rfl rfl (.mv rfl) ?_
  refine .p rfl rfl (.yes (.eq rfl rfl) (rfl)) ?_
  refine .p rfl rfl (.mv rfl) ?_
  refine .p rfl rfl (.mv rfl) ?_
  refine .p rfl rfl (.yes (.eq rfl rfl) (by rw [z100_clear])) ?_
  refine .p rfl rfl (.pickT rfl rfl) ?_
  refine .p rfl rfl (.mv rfl) ?_
  refine .p rfl rfl (.mv rfl) ?_
  refine .p rfl rfl (.yes (.eq rfl rfl) (rfl)) ?_
  refine .p rfl rfl (.pickT rfl rfl) ?_
  refine .s rfl (.storeAll (n := 3) rfl rfl rfl rfl rfl (B2.ext (S := fun _ => False) (by repeat (first | exact Ext.refl _ | assumption | refine Ext.trans (by assumption) ?_)) (fun x => x)) rfl) ?_
  intro w26 P26
  refine .p rfl rfl (.as rfl) ?_
  refine .nil (.code ?_)
  refine .retR (.cell (n := 3) rfl rfl rfl rfl rfl (P26.blk.cells) (.tmp rfl .nil)) ?_
  have Zf : Ext (fun _ => False) w w8 := (by repeat (first | exact Ext.refl _ | assumption | refine Ext.trans (by assumption) ?_))
  have R23 : tDisk.rep _ w8 _ Y100 := tDisk.ext0 D23.rep (by repeat (first | exact Ext.refl _ | assumption | refine Ext.trans (by assumption) ?_))
  exact ⟨_, rfl, tDisk.ext (tDisk.mono R23 (P' := fun k => w2.heap.size ≤ k) (fun k h _ => by have h : w17.heap.size ≤ k := h; omega)) P26.ext (by rintro k hk _ rfl; have hk : w2.heap.size ≤ w.heap.size := hk; omega) |> fun h => tDisk.mono h (fun k h _ => by have h : w2.heap.size ≤ k := h; omega), Zf.then P26.ext (by rintro k rfl _; exact Nat.le_refl _)⟩
theorem alive_fn {w : World} : Fn Try.prog 30 [] w (fun r w2 => r = .bool true ∧ Ext (fun _ => False) w w2) := by
  obtain ⟨y, sy, hy1, hy2, hy3⟩ := x2_ex (r := abc) (by decide)
  have hadd := x1_add (r := abc) (by decide)
  refine Fn.enter (fun w => Try.call30 _ w) Try.func30 rfl ?_
  refine .seq (.region ?_)
  refine .p rfl rfl (.as rfl) ?_
  refine .nil (.code (.seq (.keep [] trivial (.region ?_))))
  refine .call (first := []) (captured := []) rfl rfl rfl rfl (cleared_fn) ?_
  rintro _ w10 ⟨v10, rfl, R10, X10⟩
  have z10 := X10.size
  obtain ⟨x1, y1, x2, y2, rfl⟩ := disk_shape R10
  refine .p rfl rfl (.mv rfl) ?_
  refine .p rfl rfl (.extract rfl rfl) ?_
  refine .p rfl rfl (.cast (.extract rfl rfl) (show _ = Value.bool true from rfl)) ?_
  refine .v rfl rfl (.alloc rfl rfl) ?_
  rintro _ wn1 ⟨rfl, N1⟩
  refine .s rfl (.storeAll (n := 3) rfl rfl rfl rfl rfl N1.blk rfl) ?_
  intro w1 P1
  have X1 := N1.ext.then P1.ext (by rintro k rfl _; exact Nat.le_refl _)
  have z1 := X1.size
  have B1 := P1.blk
  have l1 := B1.lt
  clear N1 P1
  refine .p rfl rfl (.as rfl) ?_
  refine .nil (.code (.seq (.keep [(2, _), (1, _)] ⟨rfl, rfl, trivial⟩ (.region ?_))))
  refine .p rfl rfl (.loadA (n := 3) rfl rfl rfl rfl rfl (B1.ext (S := fun _ => False) (by repeat (first | exact Ext.refl _ | assumption | refine Ext.trans (by assumption) ?_)) (fun x => x)).cells) ?_
  refine .call (first := []) (captured := []) rfl rfl rfl rfl (Add_fn (d := Y100) (r := abc) (allOf (tDisk.ext0 R10 (by repeat (first | exact Ext.refl _ | assumption | refine Ext.trans (by assumption) ?_)))) (by decide)) ?_
  rintro _ w15 ⟨v15, Q15, A15, rfl, G15, hQ15, hB15, X15⟩
  have z15 := X15.size
  rw [hadd] at G15 ⊢
  refine .p rfl rfl (.mv rfl) ?_
  refine .p rfl rfl (.extract rfl rfl) ?_
  refine .p rfl rfl (.extract rfl rfl) ?_
  refine .p rfl rfl (.as rfl) ?_
  refine .p rfl rfl (.as rfl) ?_
  refine .nil (.code (.seq (.keep [(4, _), (3, _), (2, _), (1, _)] ⟨rfl, rfl, rfl, rfl, trivial⟩ (.region ?_))))
  refine .p rfl rfl (.loadA (n := 3) rfl rfl rfl rfl rfl (B1.ext (S := fun _ => False) (by repeat (first | exact Ext.refl _ | assumption | refine Ext.trans (by assumption) ?_)) (fun x => x)).cells) ?_
  refine .p rfl rfl (.mv rfl) ?_
  refine .call (first := []) (captured := []) rfl rfl rfl rfl (Do_fn (d := Y100) (l := (actsTo 17 (frameL 1 1 0 abc) (needs abc.length))) (allOf (tDisk.ext0 R10 (by repeat (first | exact Ext.refl _ | assumption | refine Ext.trans (by assumption) ?_)))) (actsOwn G15)) ?_
  rintro _ w21 ⟨v21, rfl, D21, X21⟩
  have z21 := X21.size
  rw [hadd] at hy1
  rw [hy1] at D21 ⊢
  obtain ⟨x3, y3, x4, y4, rfl⟩ := D21.val
  refine .p rfl rfl (.mv rfl) ?_
  refine .p rfl rfl (.extract rfl rfl) ?_
  refine .p rfl rfl (.extract rfl rfl) ?_
  refine .v rfl rfl (.alloc rfl rfl) ?_
  rintro _ wn5 ⟨rfl, N5⟩
  refine .s rfl (.storeAll (n := 3) rfl rfl rfl rfl rfl N5.blk rfl) ?_
  intro w5 P5
  have X5 := N5.ext.then P5.ext (by rintro k rfl _; exact Nat.le_refl _)
  have z5 := X5.size
  have B5 := P5.blk
  have l5 := B5.lt
  clear N5 P5
  refine .p rfl rfl (.as rfl) ?_
  refine .nil (.code (.seq (.keep [(6, _), (5, _), (4, _), (2, _)] ⟨rfl, rfl, rfl, rfl, trivial⟩ (.region ?_))))
  refine .p rfl rfl (.loadA (n := 3) rfl rfl rfl rfl rfl (B5.ext (S := fun _ => False) (by repeat (first | exact Ext.refl _ | assumption | refine Ext.trans (by assumption) ?_)) (fun x => x)).cells) ?_
  refine .call (first := []) (captured := []) rfl rfl rfl rfl (Records_fn (d := y) (allOf (tDisk.ext0 D21.rep (by repeat (first | exact Ext.refl _ | assumption | refine Ext.trans (by assumption) ?_))))) ?_
  rintro _ w26 ⟨v26, rfl, R26, X26⟩
  have z26 := X26.size
  rw [hy2] at R26 ⊢
  obtain ⟨a26, c26, rfl, _⟩ := Sl.val R26
  obtain ⟨b26, o26, rfl, _, hc26, _⟩ := Sl.strAt R26 (k := 0) (by show 0 < 1; decide)
  refine .p rfl rfl (.mv rfl) ?_
  refine .p rfl rfl (.extract rfl rfl) ?_
  refine .p rfl rfl (.extract rfl rfl) ?_
  refine .p rfl rfl (.as rfl) ?_
  refine .p rfl rfl (.as rfl) ?_
  refine .nil (.code (.seq (.keep [(8, _), (7, _), (6, _), (4, _), (2, _)] ⟨rfl, rfl, rfl, rfl, rfl, trivial⟩ (.region ?_))))
  refine .p rfl rfl (.mv rfl) ?_
  refine .p rfl rfl (.mv rfl) ?_
  refine .p rfl rfl (.mv rfl) ?_
  refine .p rfl rfl (.yes (.eq rfl rfl) (rfl)) ?_
  refine .p rfl rfl (.pickT rfl rfl) ?_
  refine .p rfl rfl (.mv rfl) ?_
  refine .p rfl rfl (.mv rfl) ?_
  refine .p rfl rfl (.yes (.eq rfl rfl) (rfl)) ?_
  refine .p rfl rfl (.pickT rfl rfl) ?_
  refine .p rfl rfl (.mv rfl) ?_
  refine .p rfl rfl (.mv rfl) ?_
  refine .p rfl rfl (.yes (.eq rfl rfl) (rfl)) ?_
  refine .p rfl rfl (.pickT rfl rfl) ?_
  refine .p rfl rfl (.mv rfl) ?_
  refine .p rfl rfl (.mv rfl) ?_
  refine .p rfl rfl (.len rfl rfl) ?_
  refine .p rfl rfl (.yes (.eq rfl rfl) (rfl)) ?_
  refine .p rfl rfl (.pickT rfl rfl) ?_
  refine .p rfl rfl (.mv rfl) ?_
  refine .p rfl rfl (.mv rfl) ?_
  refine .p rfl rfl (.indexAddr1 rfl rfl rfl rfl (by show (0 : Int) ≤ 0 ∧ (0 : Int) < 1; decide)) ?_
  refine .p rfl rfl (.load rfl rfl rfl hc26) ?_
  refine .p rfl rfl (.yes (.eqS rfl rfl) (rfl)) ?_
  refine .p rfl rfl (.pickT rfl rfl) ?_
  refine .p rfl rfl (.as rfl) ?_
  refine .nil (.code ?_)
  refine .ret _ rfl ?_
  exact ⟨rfl, (by repeat (first | exact Ext.refl _ | assumption | refine Ext.trans (by assumption) ?_))⟩
end Go.Proofs.Ytapdacjpmmjlhaa
