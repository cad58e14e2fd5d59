import Derived.Test.YtpfehnopghffjaaGreatDoorQ26
import Derived.Test.YtpfehnopghffjaaGreatDoorRows
import Derived.Test.YtpfehnopghffjaaGreatDoorQ14
import Derived.LaidLaws
import Derived.LaidHandle
import Derived.RowKit
import Derived.RowKitTokens
import Derived.ProofKit
import Derived.OpenShut
import Derived.Stop.Joined
import Derived.Deep.DeepLaidRun
set_option linter.unusedVariables false
set_option linter.unusedSimpArgs false
set_option maxRecDepth 20000
/-
  Package files: a new disk, a file put and read.
-/
namespace Go.Proofs.YtpfehnopghffjaaGreatDoor
open Go
open room files
namespace files
theorem view_get {y : Disk} {v : List NV} (h : Holds y v) : namesF y = (v.map (·.1), 0) ∧ ∀ p ∈ v, getF y p.1 = (p.2, 0) := by
  obtain ⟨h1, rfl⟩ := h
  refine ⟨Prod.ext ?_ h1, fun p hp => ?_⟩
  · show (mountF y).1.fs.map (·.name) = _
    unfold viewF
    rw [List.map_map]
    rfl
  · obtain ⟨f, hf, rfl⟩ := List.mem_map.1 hp
    obtain ⟨i, hi, rfl⟩ := List.getElem_of_mem hf
    exact get_at h1 hi
noncomputable def b1 : Bs := (writeF ⟨1, []⟩).1
theorem b1_w : writeF ⟨1, []⟩ = (b1, 0) := Prod.ext rfl write_1.1
theorem b1_l : b1.length = 1024 := write_1.2
noncomputable def F100 : Disk := ⟨100, b1 ++ List.replicate 11776 0, []⟩
theorem f100 : formatF 100 = (F100, 0) := by rw [formatF_0 (by omega)]; rfl
theorem f100_check : disk.checkF F100 = 0 := by
  unfold disk.checkF
  rw [if_neg]
  · rfl
  · show ¬ ((100 : Int) < 1 ∨ (4096 : Int) < 100 ∨ ¬ (((b1 ++ List.replicate 11776 (0 : UInt8)).length : Nat) : Int) = 100 * 128 ∨ 4096 < 0)
    rw [List.length_append, List.length_replicate, b1_l]
    omega
theorem f100_read {n : Nat} : disk.readF F100 (n : Int) = ((b1 ++ List.replicate 11776 0).drop (n * 128)).take 128 := rfl
theorem f100_low {i : Nat} (hi : i < 8) : disk.readF F100 ((0 + i : Nat) : Int) = (b1.drop (i * 128)).take 128 := by
  rw [f100_read, Nat.zero_add, List.drop_append_of_le_length (by rw [b1_l]; omega), List.take_append_of_le_length (by rw [List.length_drop, b1_l]; omega)]
theorem f100_high {n : Nat} (h1 : 8 ≤ n) (h2 : n < 100) : disk.readF F100 (n : Int) = List.replicate 128 0 := by
  rw [f100_read, List.drop_append, List.drop_of_length_le (by rw [b1_l]; omega), List.nil_append, List.drop_replicate, List.take_replicate, Nat.min_eq_left (by rw [b1_l]; omega)]
theorem f100_slot : slotB F100 0 = b1 := slot_new b1_l (fun i hi => f100_low hi)
theorem f100_dir : slotF F100 0 = ⟨1, []⟩ := by unfold slotF; rw [f100_slot, read_write b1_w]
theorem f100_ok : slotOK F100 0 := by
  refine ⟨by rw [f100_slot, read_write b1_w], ?_⟩
  rw [f100_dir]
  show checkR 100 [] = 0
  decide
theorem getTo_zero : getTo ((List.replicate 128 (0 : UInt8)).take 8) 8 = 0 := by decide
theorem f100_no : ¬ slotOK F100 8 := fun h => by
  obtain ⟨h1, _, h3, _⟩ := slot_may h
  have h5 := write_gen h1 (i := 0) (by omega)
  rw [slot_sec f100_check (by show ((8 + 8 : Nat) : Int) ≤ 100; decide) (by omega), f100_high (by omega) (by omega), getTo_zero] at h5
  have := h3.1.1
  omega
theorem f100_mount : mountF F100 = (⟨1, []⟩, 0, 0) := by
  rw [mountF_0 f100_check (by show ¬ (100 : Int) < 96; decide) f100_ok (fun h => f100_no h.1), f100_dir]
theorem f100_view : viewF F100 = [] := by unfold viewF; rw [f100_mount]; rfl
theorem f100_gen : ∀ k, k ≤ 8 → genTo F100 8 1 k = 1
  | 0, _ => rfl
  | k + 1, h => by
    rw [genTo_s, f100_gen k (by omega), f100_high (by omega) (by omega), getTo_zero]
    rfl
theorem take_100 : takeE 80 100 [] 2 = 0 ∧ takeL 80 100 [] 2 = [⟨80, 2⟩] := by decide
def dirA1 : Dir := ⟨2, [⟨[97], 130, [⟨80, 2⟩]⟩]⟩
theorem need_130 : needF ((130 : Nat) : Int) = 2 := by decide
theorem dirA1_w : (writeF dirA1).2 = 0 := by
  have hc : checkD dirA1 = 0 := by
    refine checkD_0 (by show ¬ 32 < 1; decide) ⟨⟨by decide, by decide⟩, by decide, (fun p hp => ?_), (fun i h => ?_)⟩
    · have hp : p ∈ [(⟨80, 2⟩ : Piece)] := hp
      rw [List.mem_singleton] at hp
      subst hp
      decide
    · have h : i < 1 := h
      obtain rfl : i = 0 := by omega
      exact ⟨(by decide : nameF [97] = true), fun h0 => absurd h0 (by decide), (by decide : (0 : Int) ≤ 130), (by decide : (130 : Int) ≤ 524288), (by decide : manyF [⟨80, 2⟩] = needF 130)⟩
  have hb : ¬ 952 < (bodyD dirA1.fs).length := by decide
  rw [writeF_0 hc hb]
theorem putA_wrong {v : Bs} : wrongF ⟨1, []⟩ [⟨[97], v, false⟩] = 0 := by
  unfold wrongF
  rw [if_neg (by show ¬ 64 < 1; decide), chgW, if_neg, chgW]
  unfold oneW
  rw [if_neg, if_neg, if_neg]
  · exact fun x => x rfl
  · rintro ⟨h, _⟩; cases h
  · exact fun h => by cases h
  · show ¬ ¬ nameF [97] = true; decide
theorem f100_turn {v : Bs} (hv : v.length = 130) : (turnF F100 [⟨[97], v, false⟩]).2 = 0 := by
  have hm : (mountF F100).2.2 = 0 := by rw [f100_mount]
  have hw : wrongF (mountF F100).1 [⟨[97], v, false⟩] = 0 := by rw [f100_mount]; exact putA_wrong
  have hk : keepN (mountF F100).1 [⟨[97], v, false⟩] = [] := by rw [f100_mount]; rfl
  have hf : freshN [(⟨[97], v, false⟩ : Change)] = [⟨[97], v, false⟩] := rfl
  have ha : allP (mountF F100).1.fs = [] := by rw [f100_mount]; rfl
  have hn : needF (v.length : Int) = 2 := by rw [hv]; exact need_130
  have hp : putsF F100.count (freshN [(⟨[97], v, false⟩ : Change)]) (keepN (mountF F100).1 [⟨[97], v, false⟩]) [] (allP (mountF F100).1.fs) = ([⟨[97], 130, [⟨80, 2⟩]⟩], [] ++ actsV [⟨80, 2⟩] v, 0) := by
    rw [hk, hf, ha]
    show putsF 100 _ _ _ _ = _
    rw [putsF]
    show (if 4096 < needF (v.length : Int) then _ else _) = _
    rw [hn, if_neg (by decide), if_neg (by rw [take_100.1]; exact fun h => h rfl), take_100.2, putsF, hv]
    rfl
  have ht : turnD F100 (mountF F100).1 (mountF F100).2.1 [⟨[97], 130, [⟨80, 2⟩]⟩] = dirA1 := by
    unfold turnD genN
    rw [f100_mount]
    show (⟨genTo F100 (8 - 0) 1 8 + 1, _⟩ : Dir) = _
    rw [f100_gen 8 (Nat.le_refl _)]
    rfl
  rw [turnF_0 hm hw (by rw [hk, hf]; show ¬ 32 < 1; decide) hp (by rw [ht]; exact dirA1_w)]
/-- a disk behind changes -/
noncomputable def turnedF (d : Disk) (l : List Change) : Disk × Int := if ¬ (turnF d l).2 = 0 then (d, (turnF d l).2) else disk.doF d (turnF d l).1
theorem turned_holds {d : Disk} {l : List Change} (h : (turnF d l).2 = 0) (hw : d.waits = []) : ∃ x, turnedF d l = (x, 0) ∧ disk.checkF x = 0 ∧ x.count = d.count ∧ x.waits = [] ∧ Holds x (map2F d l) := by
  obtain ⟨N, b, ht⟩ := turned_of h
  obtain ⟨x, h1, h2, h3, h4, _⟩ := ht.crash hw (Nat.le_refl _)
  rw [List.take_length] at h1
  exact ⟨x, by unfold turnedF; rw [if_neg (fun k => k h), h1], h2, h3, (h4 rfl).1, (h4 rfl).2⟩
theorem f100_map {v : Bs} : map2F F100 [⟨[97], v, false⟩] = [([97], v)] := by
  unfold map2F
  rw [f100_view]
  rfl
theorem alive_ex {v : Bs} (hv : v.length = 130) : ∃ x, turnedF F100 [⟨[97], v, false⟩] = (x, 0) ∧ Holds x [([97], v)] ∧ getF x [97] = (v, 0) := by
  obtain ⟨x, h1, _, _, _, h5⟩ := turned_holds (f100_turn hv) (d := F100) rfl
  rw [f100_map] at h5
  exact ⟨x, h1, h5, (view_get h5).2 _ (List.mem_singleton.2 rfl)⟩
end files
end Go.Proofs.YtpfehnopghffjaaGreatDoor
/-
  The statements of chapter 04: how much they go through; a disk behind changes; a file put and read.
-/
namespace Go.Proofs.YtpfehnopghffjaaGreatDoor
open Go
open room files
namespace files
def largeP (d : Disk) : Prop := (40000 < d.data.length ∧ 0 < d.count ∧ d.count ≤ 4096) ∨ 600000 < d.data.length ∨ 300 < d.waits.length
instance (d : Disk) : Decidable (files.largeP d) := by unfold files.largeP; infer_instance
def largeL (d : Disk) : Bool := decide (files.largeP d)
theorem largeL_not {d : Disk} (h : largeL d = false) : d.data.length ≤ 600000 ∧ d.waits.length ≤ 300 ∧ (0 < d.count → d.count ≤ 4096 → d.data.length ≤ 40000) := by
  have h := of_decide_eq_false h
  unfold files.largeP at h
  omega
def sumV : List Change → Nat
  | [] => 0
  | c :: l => min c.value.length 1000000 + sumV l
theorem sumV_take {l : List Change} {i : Nat} (h : i < l.length) : sumV (l.take (i + 1)) = sumV (l.take i) + min l[i].value.length 1000000 := by
  induction l generalizing i with
  | nil => exact absurd h (Nat.not_lt_zero _)
  | cons c l ih =>
    cases i with
    | zero => simp [sumV]
    | succ i =>
      have h : i < l.length := by simpa using h
      simp only [List.take_succ_cons, sumV, List.getElem_cons_succ]
      rw [ih h]
      omega
theorem sumV_le (l : List Change) : sumV l ≤ l.length * 1000000 := by
  induction l with
  | nil => simp [sumV]
  | cons c l ih => simp only [sumV, List.length_cons]; omega
def heavyL (l : List Change) : Bool := decide (200 < l.length ∨ 700000 < sumV l)
theorem heavyL_not {l : List Change} (h : heavyL l = false) : l.length ≤ 200 ∧ sumV l ≤ 700000 := by
  have h := of_decide_eq_false h
  omega
def textAt (i : Nat) : UInt8 := UInt8.ofNat (97 + (i : Int) % 7).toNat
def text7 (n : Nat) : Bs := (List.range n).map textAt
theorem text7_length (n : Nat) : (text7 n).length = n := by simp [text7]
theorem text7_step (n : Nat) : text7 (n + 1) = text7 n ++ [textAt n] := by simp [text7, List.range_succ]
theorem actsO_rep {B Q : Nat → Prop} {E : TypeId} {w : World} {v : Value} {l : List disk.Act} (h : OwnO disk.tActO Q E w v l B) : (Sl disk.tAct).rep All w v l := Sl.imp (OwnO.rep h (R := All) (fun _ _ _ => trivial) (fun _ _ _ => trivial)) (fun u x hx => disk.tActO.weak hx)
end files
theorem diskShape {P : Nat → Prop} {w : World} {v : Value} {d : Disk} (h : disk.tDisk.rep P w v d) : ∃ a1 c1 a2 c2, v = .agg #[i64 d.count, .slice a1 d.data.length c1, .slice a2 d.waits.length c2] := by
  obtain ⟨u1, u2, rfl, h1, h2, _⟩ := disk.tDisk.val h
  obtain ⟨a1, c1, rfl, _⟩ := Sl.val h1
  obtain ⟨a2, c2, rfl, _⟩ := Sl.val h2
  exact ⟨a1, c1, a2, c2, rfl⟩
theorem Ev.addWrap {P : Program} {e : Env} {x y : Operand} {w : World} {k : IntKind} {a b : Int} {T T' : TypeId} (hx : look e x = some (.int k a)) (hy : look e y = some (.int k b)) : Ev P e (.binOp .add T x y T') w (.int k (k.wrap (a + b))) :=
  fun w' _ ρ hρ o ho => by simp [execOp, ho, hρ _ _ hx, hρ _ _ hy, eqGuard, binOp, Op.intArith]
theorem filesLarge_fn {w : World} {v : Value} {d : Disk} (h : disk.tDisk.rep All w v d) : Fn Tryz.prog 17 [v] w (fun r w2 => r = .bool (files.largeL d) ∧ Ext (fun _ => False) w w2) := by
  obtain ⟨u, u', rfl, hd, hw, hc1, hc2⟩ := disk.tDisk.val h
  obtain ⟨a, cap, rfl, hcap⟩ := Sl.val hd
  obtain ⟨aw, capw, rfl, hcapw⟩ := Sl.val hw
  refine Fn.enter (fun w => Tryz.call17 _ w) Tryz.func17 rfl ?_
  refine .seq (.region ?_)
  refine .v rfl rfl (.box rfl) ?_
  rintro _ w1 ⟨rfl, N1⟩
  have B1 := N1.blk
  refine .p rfl rfl (.as rfl) ?_
  refine .nil (.code (.seq (.keep [(1, _)] ⟨rfl, trivial⟩ (.region ?_))))
  refine .p rfl rfl (.fieldAddr rfl rfl rfl rfl) ?_
  refine .p rfl rfl (.load rfl rfl rfl (B1.cell 1)) ?_
  refine .p rfl rfl (.len rfl rfl) ?_
  refine .p rfl rfl (.gt rfl rfl) ?_
  refine .p rfl rfl (.mv rfl) ?_
  refine .caseD 7 rfl (fun c7 => ?_) (fun c7 => ?_)
  · refine .p rfl rfl (.fieldAddr rfl rfl rfl rfl) ?_
    refine .p rfl rfl (.load rfl rfl rfl (B1.cell 0)) ?_
    refine .p rfl rfl (.gt rfl rfl) ?_
    refine .p rfl rfl (.pickT rfl rfl) ?_
    refine .p rfl rfl (.mv rfl) ?_
    refine .caseD 12 rfl (fun c12 => ?_) (fun c12 => ?_)
    · refine .p rfl rfl (.fieldAddr rfl rfl rfl rfl) ?_
      refine .p rfl rfl (.load rfl rfl rfl (B1.cell 0)) ?_
      refine .p rfl rfl (.le rfl rfl) ?_
      refine .p rfl rfl (.pickT rfl rfl) ?_
      refine .p rfl rfl (.mv rfl) ?_
      refine .caseD 17 rfl (fun c17 => ?_) (fun c17 => ?_)
      · refine .skip rfl rfl ?_
        refine .skip rfl rfl ?_
        refine .skip rfl rfl ?_
        refine .skip rfl rfl ?_
        refine .p rfl rfl (.pickT rfl rfl) ?_
        refine .p rfl rfl (.mv rfl) ?_
        refine .skip rfl rfl ?_
        refine .skip rfl rfl ?_
        refine .skip rfl rfl ?_
        refine .skip rfl rfl ?_
        refine .p rfl rfl (.pickT rfl rfl) ?_
        refine .p rfl rfl (.as rfl) ?_
        refine .nil (.code ?_)
        refine .ret _ rfl ?_
        refine ⟨?_, N1.ext⟩
        first
          | (rw [show files.largeL d = true from decide_eq_true (by unfold files.largeP; omega)]; rfl)
          | (rw [show files.largeL d = false from decide_eq_false (by unfold files.largeP; omega)]; rfl)
          | exact congrArg Value.bool (decide_eq_decide.2 ⟨fun hh => by unfold files.largeP; omega, fun hh => by unfold files.largeP at hh; omega⟩)
      · refine .p rfl rfl (.fieldAddr rfl rfl rfl rfl) ?_
        refine .p rfl rfl (.load rfl rfl rfl (B1.cell 1)) ?_
        refine .p rfl rfl (.len rfl rfl) ?_
        refine .p rfl rfl (.gt rfl rfl) ?_
        refine .p rfl rfl (.pickF rfl rfl) ?_
        refine .p rfl rfl (.mv rfl) ?_
        refine .caseD 23 rfl (fun c23 => ?_) (fun c23 => ?_)
        · refine .skip rfl rfl ?_
          refine .skip rfl rfl ?_
          refine .skip rfl rfl ?_
          refine .skip rfl rfl ?_
          refine .p rfl rfl (.pickT rfl rfl) ?_
          refine .p rfl rfl (.as rfl) ?_
          refine .nil (.code ?_)
          refine .ret _ rfl ?_
          refine ⟨?_, N1.ext⟩
          first
            | (rw [show files.largeL d = true from decide_eq_true (by unfold files.largeP; omega)]; rfl)
            | (rw [show files.largeL d = false from decide_eq_false (by unfold files.largeP; omega)]; rfl)
            | exact congrArg Value.bool (decide_eq_decide.2 ⟨fun hh => by unfold files.largeP; omega, fun hh => by unfold files.largeP at hh; omega⟩)
        · refine .p rfl rfl (.fieldAddr rfl rfl rfl rfl) ?_
          refine .p rfl rfl (.load rfl rfl rfl (B1.cell 2)) ?_
          refine .p rfl rfl (.len rfl rfl) ?_
          refine .p rfl rfl (.gt rfl rfl) ?_
          refine .p rfl rfl (.pickF rfl rfl) ?_
          refine .p rfl rfl (.as rfl) ?_
          refine .nil (.code ?_)
          refine .ret _ rfl ?_
          refine ⟨?_, N1.ext⟩
          first
            | (rw [show files.largeL d = true from decide_eq_true (by unfold files.largeP; omega)]; rfl)
            | (rw [show files.largeL d = false from decide_eq_false (by unfold files.largeP; omega)]; rfl)
            | exact congrArg Value.bool (decide_eq_decide.2 ⟨fun hh => by unfold files.largeP; omega, fun hh => by unfold files.largeP at hh; omega⟩)
    · refine .skip rfl rfl ?_
      refine .skip rfl rfl ?_
      refine .skip rfl rfl ?_
      refine .p rfl rfl (.pickF rfl rfl) ?_
      refine .p rfl rfl (.mv rfl) ?_
      refine .p rfl rfl (.fieldAddr rfl rfl rfl rfl) ?_
      refine .p rfl rfl (.load rfl rfl rfl (B1.cell 1)) ?_
      refine .p rfl rfl (.len rfl rfl) ?_
      refine .p rfl rfl (.gt rfl rfl) ?_
      refine .p rfl rfl (.pickF rfl rfl) ?_
      refine .p rfl rfl (.mv rfl) ?_
      refine .caseD 23 rfl (fun c23 => ?_) (fun c23 => ?_)
      · refine .skip rfl rfl ?_
        refine .skip rfl rfl ?_
        refine .skip rfl rfl ?_
        refine .skip rfl rfl ?_
        refine .p rfl rfl (.pickT rfl rfl) ?_
        refine .p rfl rfl (.as rfl) ?_
        refine .nil (.code ?_)
        refine .ret _ rfl ?_
        refine ⟨?_, N1.ext⟩
        first
          | (rw [show files.largeL d = true from decide_eq_true (by unfold files.largeP; omega)]; rfl)
          | (rw [show files.largeL d = false from decide_eq_false (by unfold files.largeP; omega)]; rfl)
          | exact congrArg Value.bool (decide_eq_decide.2 ⟨fun hh => by unfold files.largeP; omega, fun hh => by unfold files.largeP at hh; omega⟩)
      · refine .p rfl rfl (.fieldAddr rfl rfl rfl rfl) ?_
        refine .p rfl rfl (.load rfl rfl rfl (B1.cell 2)) ?_
        refine .p rfl rfl (.len rfl rfl) ?_
        refine .p rfl rfl (.gt rfl rfl) ?_
        refine .p rfl rfl (.pickF rfl rfl) ?_
        refine .p rfl rfl (.as rfl) ?_
        refine .nil (.code ?_)
        refine .ret _ rfl ?_
        refine ⟨?_, N1.ext⟩
        first
          | (rw [show files.largeL d = true from decide_eq_true (by unfold files.largeP; omega)]; rfl)
          | (rw [show files.largeL d = false from decide_eq_false (by unfold files.largeP; omega)]; rfl)
          | exact congrArg Value.bool (decide_eq_decide.2 ⟨fun hh => by unfold files.largeP; omega, fun hh => by unfold files.largeP at hh; omega⟩)
  · refine .skip rfl rfl ?_
    refine .skip rfl rfl ?_
    refine .skip rfl rfl ?_
    refine .p rfl rfl (.pickF rfl rfl) ?_
    refine .p rfl rfl (.mv rfl) ?_
    refine .skip rfl rfl ?_
    refine .skip rfl rfl ?_
    refine .skip rfl rfl ?_
    refine .p rfl rfl (.pickF rfl rfl) ?_
    refine .p rfl rfl (.mv rfl) ?_
    refine .p rfl rfl (.fieldAddr rfl rfl rfl rfl) ?_
    refine .p rfl rfl (.load rfl rfl rfl (B1.cell 1)) ?_
    refine .p rfl rfl (.len rfl rfl) ?_
    refine .p rfl rfl (.gt rfl rfl) ?_
    refine .p rfl rfl (.pickF rfl rfl) ?_
    refine .p rfl rfl (.mv rfl) ?_
    refine .caseD 23 rfl (fun c23 => ?_) (fun c23 => ?_)
    · refine .skip rfl rfl ?_
      refine .skip rfl rfl ?_
      refine .skip rfl rfl ?_
      refine .skip rfl rfl ?_
      refine .p rfl rfl (.pickT rfl rfl) ?_
      refine .p rfl rfl (.as rfl) ?_
      refine .nil (.code ?_)
      refine .ret _ rfl ?_
      refine ⟨?_, N1.ext⟩
      first
        | (rw [show files.largeL d = true from decide_eq_true (by unfold files.largeP; omega)]; rfl)
        | (rw [show files.largeL d = false from decide_eq_false (by unfold files.largeP; omega)]; rfl)
        | exact congrArg Value.bool (decide_eq_decide.2 ⟨fun hh => by unfold files.largeP; omega, fun hh => by unfold files.largeP at hh; omega⟩)
    · refine .p rfl rfl (.fieldAddr rfl rfl rfl rfl) ?_
      refine .p rfl rfl (.load rfl rfl rfl (B1.cell 2)) ?_
      refine .p rfl rfl (.len rfl rfl) ?_
      refine .p rfl rfl (.gt rfl rfl) ?_
      refine .p rfl rfl (.pickF rfl rfl) ?_
      refine .p rfl rfl (.as rfl) ?_
      refine .nil (.code ?_)
      refine .ret _ rfl ?_
      refine ⟨?_, N1.ext⟩
      first
        | (rw [show files.largeL d = true from decide_eq_true (by unfold files.largeP; omega)]; rfl)
        | (rw [show files.largeL d = false from decide_eq_false (by unfold files.largeP; omega)]; rfl)
        | exact congrArg Value.bool (decide_eq_decide.2 ⟨fun hh => by unfold files.largeP; omega, fun hh => by unfold files.largeP at hh; omega⟩)
theorem heavy_fn {w : World} {v : Value} {l : List Change} (h : (Sl tree.tChange).rep All w v l) : Fn Tryz.prog 27 [v] w (fun r w2 => r = .bool (heavyL l) ∧ Ext (fun _ => False) w w2) := by
  obtain ⟨al, kl, rfl, _⟩ := Sl.val h
  have hlim := Sl.lim h
  simp only [Lim] at hlim
  refine Fn.enter (fun w => Tryz.call27 _ w) Tryz.func27 rfl ?_
  refine .seq (.region ?_)
  refine .p rfl rfl (.as rfl) ?_
  refine .nil (.code (.seq (.keep [(0, _)] ⟨rfl, trivial⟩ (.region ?_))))
  refine .p rfl rfl (.as rfl) ?_
  refine .nil (.code (.seq (.seq (.region ?_))))
  refine .p rfl rfl (.as rfl) ?_
  refine .nil (.code (.block ?_))
  refine .loop (S := Nat × Int) (fun s => [(0, .slice al l.length kl), (3, i64 s.2), (4, i64 s.1)]) (fun s => w) (fun s => s.1 ≤ l.length ∧ (l.length ≤ 200 → s.2 = (sumV (l.take s.1) : Nat))) (fun s => l.length - s.1) (0, 0) ⟨rfl, rfl, rfl, trivial⟩ rfl ⟨Nat.zero_le _, fun _ => rfl⟩ ?_
  rintro ⟨i, sm⟩ J ⟨hi', hsm⟩ again
  simp only at hi' hsm
  change G _ [(0, .slice al l.length kl), (3, i64 sm), (4, i64 i)] _ _ w
  refine .seq (.seq (.region ?_))
  refine .p rfl rfl (.mv rfl) ?_
  refine .p rfl rfl (.mv rfl) ?_
  refine .p rfl rfl (.len rfl rfl) ?_
  refine .p rfl rfl (.lt rfl rfl) ?_
  refine .nil (.code (.keep [(8, _), (0, _), (3, _), (4, _)] ⟨rfl, rfl, rfl, rfl, trivial⟩ ?_))
  refine .condD rfl (fun c8 => ?_) (fun c8 => ?_)
  · have hi : i < l.length := by omega
    obtain ⟨bc, oc, qc, uec, ec, _, hcs, hre⟩ := Sl.at h (List.getElem?_eq_getElem hi)
    cases ec
    obtain ⟨rfl, hkey, hval⟩ := tree.tChange.val hre
    have hval2 := hval
    simp only [Lim] at hval2
    refine .skip (.code (.seq (.block (.keep [(0, _), (3, _), (4, _)] ⟨rfl, rfl, rfl, trivial⟩ (.region ?_)))))
    refine .p rfl rfl (.mv rfl) ?_
    refine .p rfl rfl (.mv rfl) ?_
    refine .p rfl rfl (.mv rfl) ?_
    refine .p rfl rfl (.indexAddr (s := 3) rfl rfl rfl rfl (by omega)) ?_
    refine .p rfl rfl (.fieldAddr rfl rfl rfl rfl) ?_
    refine .p rfl rfl (.load rfl rfl rfl (hcs 1 _ rfl)) ?_
    refine .p rfl rfl (.lenS rfl rfl) ?_
    refine .p rfl rfl (.min2 rfl rfl) ?_
    refine .p rfl rfl (.addWrap rfl rfl) ?_
    refine .p rfl rfl (.as rfl) ?_
    refine .nil (.blk (.code (.keep [(3, _), (0, _), (4, _)] ⟨rfl, rfl, rfl, trivial⟩ (.region ?_))))
    refine .p rfl rfl (.mv rfl) ?_
    refine .p rfl rfl (.add rfl rfl (by omega)) ?_
    refine .p rfl rfl (.as rfl) ?_
    refine .nil ?_
    exact (again (i + 1, IntKind.i64.wrap (sm + min ((l[i].value.length : Nat) : Int) 1000000)) ⟨by show i + 1 ≤ _; omega, fun h2 => by
      have h3 := hsm h2
      have h4 := sumV_take hi
      have h5 := sumV_le (l.take i)
      rw [List.length_take] at h5
      show IntKind.i64.wrap (sm + min ((l[i].value.length : Nat) : Int) 1000000) = ((sumV (l.take (i + 1)) : Nat) : Int)
      rw [IntWalk.i64_in _ (by omega), h4, h3]
      omega⟩ (by show l.length - (i + 1) < l.length - i; omega)).of ⟨rfl, rfl, rfl, trivial⟩
  · obtain rfl : i = l.length := by omega
    refine .exit rfl (.code (.seq (.keep [(0, _), (3, _)] ⟨rfl, rfl, trivial⟩ (.region ?_))))
    refine .p rfl rfl (.mv rfl) ?_
    refine .p rfl rfl (.len rfl rfl) ?_
    refine .p rfl rfl (.gt rfl rfl) ?_
    refine .p rfl rfl (.mv rfl) ?_
    refine .caseD 23 rfl (fun c23 => ?_) (fun c23 => ?_)
    · refine .skip rfl rfl ?_
      refine .skip rfl rfl ?_
      refine .p rfl rfl (.pickT rfl rfl) ?_
      refine .p rfl rfl (.as rfl) ?_
      refine .nil (.code ?_)
      refine .ret _ rfl ?_
      refine ⟨?_, .refl _⟩
      have hsl := sumV_le l
      rw [List.take_length] at hsm
      first
        | (rw [show heavyL l = true from decide_eq_true (by omega)]; rfl)
        | (rw [show heavyL l = false from decide_eq_false (by omega)]; rfl)
        | exact congrArg Value.bool (decide_eq_decide.2 ⟨fun hh => by omega, fun hh => by omega⟩)
    · refine .p rfl rfl (.mv rfl) ?_
      refine .p rfl rfl (.gt rfl rfl) ?_
      refine .p rfl rfl (.pickF rfl rfl) ?_
      refine .p rfl rfl (.as rfl) ?_
      refine .nil (.code ?_)
      refine .ret _ rfl ?_
      refine ⟨?_, .refl _⟩
      have hsl := sumV_le l
      rw [List.take_length] at hsm
      first
        | (rw [show heavyL l = true from decide_eq_true (by omega)]; rfl)
        | (rw [show heavyL l = false from decide_eq_false (by omega)]; rfl)
        | exact congrArg Value.bool (decide_eq_decide.2 ⟨fun hh => by omega, fun hh => by omega⟩)
theorem lawPut_fn {w : World} {a b : Bs} : Fn Tryz.prog 39 [str a, str b] w (fun r w2 => r = .agg #[str a, str b, .bool false] ∧ Ext (fun _ => False) w w2) := by
  refine Fn.enter (fun w => Tryz.call39 _ w) Tryz.func39 rfl ?_
  refine .seq (.region ?_)
  refine .v rfl rfl (.alloc rfl rfl) ?_
  rintro _ wn4 ⟨rfl, N4⟩
  refine .nil (.code (.seq (.region ?_)))
  refine .p rfl rfl (.mv rfl) ?_
  refine .p rfl rfl (.mv rfl) ?_
  refine .p rfl rfl (.build (cs := [str a, str b, .bool false]) rfl (fun _ => by kernel_rfl)) ?_
  refine .s rfl (.storeAll (n := 3) rfl rfl rfl rfl rfl N4.blk rfl) ?_
  intro w4 P4
  have Y4 := N4.ext.then P4.ext (by rintro k rfl _; exact Nat.le_refl _)
  have zy4 := Y4.size
  have B4 := P4.blk
  clear P4 N4
  refine .nil (.code ?_)
  refine .retR (.cell (n := 3) rfl rfl rfl rfl rfl (B4.cells) .nil) ?_
  exact ⟨rfl, Y4⟩
theorem text_fn {w : World} {n : Nat} (hn : n ≤ 100000) : Fn Tryz.prog 40 [i64 (n : Nat)] w (fun r w2 => r = str (text7 n) ∧ Ext (fun _ => False) w w2) := by
  refine Fn.enter (fun w => Tryz.call40 _ w) Tryz.func40 rfl ?_
  refine .seq (.region ?_)
  refine .p rfl rfl (.as rfl) ?_
  refine .nil (.code (.seq (.keep [(0, _)] ⟨rfl, trivial⟩ (.region ?_))))
  refine .p rfl rfl (.mv rfl) ?_
  refine .v rfl rfl (.make (eb := 1) rfl rfl rfl rfl rfl rfl rfl rfl (by omega)) ?_
  rintro _ w6 ⟨rfl, N6⟩
  have z6 := N6.size
  refine .p rfl rfl (.as rfl) ?_
  refine .nil (.code (.seq (.seq (.keep [(3, _), (0, _)] ⟨rfl, rfl, trivial⟩ (.region ?_)))))
  refine .p rfl rfl (.as rfl) ?_
  refine .nil (.code (.block ?_))
  refine .loop (S := Nat × World) (fun s => [(0, i64 (n : Nat)), (3, .slice (some ⟨w.heap.size, 0, none⟩) n n), (4, i64 s.1)]) (fun s => s.2) (fun s => s.1 ≤ n ∧ Blk s.2 w.heap.size 5 ((text7 s.1).map u8 ++ List.replicate (n - s.1) (u8 0)) ∧ Ext (fun _ => False) w s.2) (fun s => n - s.1) (0, w6) ⟨rfl, rfl, rfl, trivial⟩ rfl ⟨Nat.zero_le _, N6.blk, N6.ext⟩ ?_
  rintro ⟨k, wk⟩ J ⟨hk', hB, hX⟩ again
  simp only at hk' hB hX
  change G _ [(0, i64 (n : Nat)), (3, .slice (some ⟨w.heap.size, 0, none⟩) n n), (4, i64 k)] _ _ wk
  refine .seq (.seq (.region ?_))
  refine .p rfl rfl (.mv rfl) ?_
  refine .p rfl rfl (.mv rfl) ?_
  refine .p rfl rfl (.lt rfl rfl) ?_
  refine .nil (.code (.keep [(9, _), (0, _), (3, _), (4, _)] ⟨rfl, rfl, rfl, rfl, trivial⟩ ?_))
  refine .condD rfl (fun c9 => ?_) (fun c9 => ?_)
  · refine .skip (.code (.seq (.block (.keep [(0, _), (3, _), (4, _)] ⟨rfl, rfl, rfl, trivial⟩ (.region ?_)))))
    refine .p rfl rfl (.mv rfl) ?_
    refine .p rfl rfl (.mv rfl) ?_
    refine .p rfl rfl (.mv rfl) ?_
    refine .p rfl rfl (.rem rfl rfl (by omega)) ?_
    refine .p rfl rfl (.add rfl rfl (by omega)) ?_
    refine .p rfl rfl (.convB rfl rfl rfl (by omega)) ?_
    refine .p rfl rfl (.cast (.indexAddr1 rfl rfl rfl rfl (by omega)) (show _ = Value.pointer (some ⟨w.heap.size, k, none⟩) by simp)) ?_
    refine .s rfl (.store rfl rfl rfl rfl rfl hB (by simp [text7_length]; omega)) ?_
    intro w18 P18
    refine .nil (.blk (.code (.keep [(0, _), (3, _), (4, _)] ⟨rfl, rfl, rfl, trivial⟩ (.region ?_))))
    refine .p rfl rfl (.mv rfl) ?_
    refine .p rfl rfl (.add rfl rfl (by omega)) ?_
    refine .p rfl rfl (.as rfl) ?_
    refine .nil ?_
    refine (again (k + 1, w18) ⟨by show k + 1 ≤ _; omega, ?_, hX.then P18.ext (by rintro k rfl _; exact Nat.le_refl _)⟩ (by show _ - (k + 1) < _ - k; omega)).of ⟨rfl, rfl, rfl, trivial⟩
    have B6 := P18.blk
    rw [List.set_append_right _ _ (by simp [text7_length]), List.length_map, text7_length, Nat.sub_self, show n - k = (n - (k + 1)) + 1 by omega, List.replicate_succ, List.set_cons_zero] at B6
    show Blk w18 _ _ ((text7 (k + 1)).map u8 ++ List.replicate (n - (k + 1)) (u8 0))
    rw [text7_step, List.map_append, List.append_assoc]
    exact B6
  · obtain rfl : k = n := by omega
    refine .exit rfl (.code (.seq (.keep [(3, _)] ⟨rfl, trivial⟩ (.region ?_))))
    refine .p rfl rfl (.mv rfl) ?_
    refine .p rfl rfl (.bytesStr rfl (Own.rep (Q' := All) (Own.ofBlk (Q := fun _ => False) (l := text7 k) (n := k) (cap := k) (sp := []) (by simpa using hB) (by rw [text7_length]; simp [Lim]; omega) (text7_length k).symm (by simp [text7_length])) trivial (fun _ h _ => h.elim)) rfl rfl rfl) ?_
    refine .p rfl rfl (.as rfl) ?_
    refine .nil (.code ?_)
    refine .ret _ rfl ?_
    exact ⟨rfl, hX⟩
theorem turned_fn {w : World} {v vl : Value} {d : Disk} {l : List Change} {P0 : Nat → Prop} (h : disk.tDisk.rep P0 w v d) (hl : (Sl tree.tChange).rep All w vl l) (hg : GOK w) : Fn Tryz.prog 41 [v, vl] w (fun r w2 => ∃ v', r = .tuple #[v', i64 (turnedF d l).2] ∧ disk.tDisk.rep (fun k => (P0 k ∧ k < w.heap.size) ∨ w.heap.size ≤ k) w2 v' (turnedF d l).1 ∧ Ext (fun _ => False) w w2) := by
  have hp := h
  replace h := allOf h
  have h0 := h
  obtain ⟨u1, u2, rfl, hd1, hd2, hdc⟩ := disk.tDisk.val h
  obtain ⟨a1, k1, rfl, _⟩ := Sl.val hd1
  obtain ⟨a2, k2, rfl, _⟩ := Sl.val hd2
  refine Fn.enter (fun w => Tryz.call41 _ w) Tryz.func41 rfl ?_
  refine .seq (.region ?_)
  refine .v rfl rfl (.box rfl) ?_
  rintro _ w2 ⟨rfl, N2⟩
  have B2 := N2.blk
  have X2 := N2.ext
  have z2 := N2.size
  refine .v rfl rfl (.alloc rfl rfl) ?_
  rintro _ wn4 ⟨rfl, N4⟩
  have X4 := N4.ext
  have z4 := N4.size
  have B4 := N4.blk
  refine .p rfl rfl (.as rfl) ?_
  refine .nil (.code (.seq (.keep [(4, _), (2, _), (1, _)] ⟨rfl, rfl, rfl, trivial⟩ (.region ?_))))
  refine .p rfl rfl (.loadA (n := 3) rfl rfl rfl rfl rfl (B2.ext (S := fun _ => False) (by repeat (first | exact Ext.refl _ | assumption | refine Ext.trans (by assumption) ?_)) (fun x => x)).cells) ?_
  refine .p rfl rfl (.mv rfl) ?_
  refine .call (first := []) (captured := []) rfl rfl rfl rfl (Turn_fn (d := d) (l := l) (disk.tDisk.ext0 h0 (by repeat (first | exact Ext.refl _ | assumption | refine Ext.trans (by assumption) ?_))) ((Sl tree.tChange).ext0 hl (by repeat (first | exact Ext.refl _ | assumption | refine Ext.trans (by assumption) ?_))) (hg.ext0 (by repeat (first | exact Ext.refl _ | assumption | refine Ext.trans (by assumption) ?_)))) ?_
  rintro _ w12 ⟨v12, Q12, B12, rfl, O12, hQ12, hB12, X12⟩
  have z12 := X12.size
  refine .p rfl rfl (.mv rfl) ?_
  refine .p rfl rfl (.extract rfl rfl) ?_
  refine .p rfl rfl (.extract rfl rfl) ?_
  refine .p rfl rfl (.as rfl) ?_
  refine .p rfl rfl (.as rfl) ?_
  refine .nil (.code (.seq (.seq (.keep [(7, _), (6, _), (4, _), (2, _)] ⟨rfl, rfl, rfl, rfl, trivial⟩ (.region ?_)))))
  refine .p rfl rfl (.mv rfl) ?_
  refine .p rfl rfl (.ne rfl rfl) ?_
  refine .nil (.code (.keep [(16, _), (7, _), (6, _), (4, _), (2, _)] ⟨rfl, rfl, rfl, rfl, rfl, trivial⟩ ?_))
  refine .condD rfl (fun c16 => ?_) (fun c16 => ?_)
  · refine .seq (.keep [(7, _), (4, _), (2, _)] ⟨rfl, rfl, rfl, trivial⟩ (.region ?_))
    refine .p rfl rfl (.loadA (n := 3) rfl rfl rfl rfl rfl (B2.ext (S := fun _ => False) (by repeat (first | exact Ext.refl _ | assumption | refine Ext.trans (by assumption) ?_)) (fun x => x)).cells) ?_
    refine .p rfl rfl (.mv rfl) ?_
    refine .s rfl (.storeAll (n := 3) rfl rfl rfl rfl rfl (B4.ext (S := fun _ => False) (by repeat (first | exact Ext.refl _ | assumption | refine Ext.trans (by assumption) ?_)) (fun x => x)) rfl) ?_
    intro w17 P17
    refine .p rfl rfl (.as rfl) ?_
    refine .nil (.code ?_)
    refine .retR (.cell (n := 3) rfl rfl rfl rfl rfl (P17.blk.cells) (.tmp rfl .nil)) ?_
    have XW : Ext (fun _ => False) w w17 := Ext.then (by repeat (first | exact Ext.refl _ | assumption | refine Ext.trans (by assumption) ?_)) P17.ext (by rintro k rfl _; omega)
    unfold turnedF
    rw [if_pos c16]
    exact ⟨_, rfl, disk.tDisk.ext0 (disk.tDisk.mono hp (fun k h hl => .inl ⟨h, hl⟩)) XW, XW⟩
  · refine .skip (.code (.seq (.keep [(6, _), (4, _), (2, _)] ⟨rfl, rfl, rfl, trivial⟩ (.region ?_))))
    refine .p rfl rfl (.loadA (n := 3) rfl rfl rfl rfl rfl (B2.ext (S := fun _ => False) (by repeat (first | exact Ext.refl _ | assumption | refine Ext.trans (by assumption) ?_)) (fun x => x)).cells) ?_
    refine .p rfl rfl (.mv rfl) ?_
    refine .call (first := []) (captured := []) rfl rfl rfl rfl (Do_fn (d := d) (l := (turnF d l).1) (disk.tDisk.ext0 h0 (by repeat (first | exact Ext.refl _ | assumption | refine Ext.trans (by assumption) ?_))) (actsO_rep (OwnO.ext0 O12 (by repeat (first | exact Ext.refl _ | assumption | refine Ext.trans (by assumption) ?_))))) ?_
    rintro _ w22 ⟨v22, rfl, D22, X22⟩
    have z22 := X22.size
    obtain ⟨x1, y1, x2, y2, rfl⟩ := D22.val
    refine .p rfl rfl (.mv rfl) ?_
    refine .p rfl rfl (.extract rfl rfl) ?_
    refine .p rfl rfl (.extract rfl rfl) ?_
    refine .v rfl rfl (.alloc rfl rfl) ?_
    rintro _ wn8 ⟨rfl, N8⟩
    refine .s rfl (.storeAll (n := 3) rfl rfl rfl rfl rfl N8.blk rfl) ?_
    intro w8 P8
    have Y8 := N8.ext.then P8.ext (by rintro k rfl _; exact Nat.le_refl _)
    have zy8 := Y8.size
    have B8 := P8.blk
    clear P8 N8
    refine .p rfl rfl (.as rfl) ?_
    refine .nil (.code (.seq (.keep [(7, _), (8, _), (4, _)] ⟨rfl, rfl, rfl, trivial⟩ (.region ?_))))
    refine .p rfl rfl (.loadA (n := 3) rfl rfl rfl rfl rfl (B8.ext (S := fun _ => False) (by repeat (first | exact Ext.refl _ | assumption | refine Ext.trans (by assumption) ?_)) (fun x => x)).cells) ?_
    refine .p rfl rfl (.mv rfl) ?_
    refine .s rfl (.storeAll (n := 3) rfl rfl rfl rfl rfl (B4.ext (S := fun _ => False) (by repeat (first | exact Ext.refl _ | assumption | refine Ext.trans (by assumption) ?_)) (fun x => x)) rfl) ?_
    intro w25 P25
    refine .p rfl rfl (.as rfl) ?_
    refine .nil (.code ?_)
    refine .retR (.cell (n := 3) rfl rfl rfl rfl rfl (P25.blk.cells) (.tmp rfl .nil)) ?_
    have XV : Ext (fun _ => False) w w8 := (by repeat (first | exact Ext.refl _ | assumption | refine Ext.trans (by assumption) ?_))
    have XW : Ext (fun _ => False) w w25 := XV.then P25.ext (by rintro k rfl _; omega)
    unfold turnedF
    rw [if_neg c16]
    exact ⟨_, rfl, disk.tDisk.mono (disk.tDisk.ext (disk.tDisk.ext0 D22.rep (by repeat (first | exact Ext.refl _ | assumption | refine Ext.trans (by assumption) ?_))) P25.ext (by rintro k hk _ rfl; have hk : w12.heap.size ≤ _ := hk; omega)) (fun k h _ => .inr (by have h : w12.heap.size ≤ k := h; omega)), XW⟩
end Go.Proofs.YtpfehnopghffjaaGreatDoor
/-
  The statements of chapter 04: a file that is put is read.
-/
namespace Go.Proofs.YtpfehnopghffjaaGreatDoor
open Go
open room files
attribute [local irreducible] files.text7 files.turnedF files.getF files.formatF files.F100
theorem filesAlive_fn {w : World} (hg : GOK w) : Fn Tryz.prog 35 [] w (fun r w2 => r = .bool true ∧ Ext (fun _ => False) w w2) := by
  obtain ⟨x, hx1, hx2, hx3⟩ := alive_ex (text7_length 130)
  obtain ⟨T130, hT130⟩ : ∃ t, t = text7 130 := ⟨_, rfl⟩
  have hTl : T130.length = 130 := by rw [hT130]; exact text7_length 130
  rw [← hT130] at hx1 hx2 hx3
  refine Fn.enter (fun w => Tryz.call35 _ w) Tryz.func35 rfl ?_
  refine .seq (.region ?_)
  refine .p rfl rfl (.as rfl) ?_
  refine .nil (.code (.seq (.keep [] trivial (.region ?_))))
  refine .call (first := []) (captured := []) rfl rfl rfl rfl (Format_fn (n := 100) hg (by omega)) ?_
  rintro _ w8 ⟨v8, rfl, R8, X8⟩
  have z8 := X8.size
  rw [f100] at R8 ⊢
  obtain ⟨a1, k1, a2, k2, rfl⟩ := diskShape R8
  refine .p rfl rfl (.mv rfl) ?_
  refine .p rfl rfl (.extract rfl rfl) ?_
  refine .p rfl rfl (.extract rfl rfl) ?_
  refine .v rfl rfl (.alloc rfl rfl) ?_
  rintro _ wn1 ⟨rfl, N1⟩
  refine .s rfl (.storeAll (n := 3) rfl rfl rfl rfl rfl N1.blk rfl) ?_
  intro w1 P1
  have Y1 := N1.ext.then P1.ext (by rintro k rfl _; exact Nat.le_refl _)
  have zy1 := Y1.size
  have B1 := P1.blk
  clear P1 N1
  have hl1 := B1.lt
  have hg1 : GOK w1 := hg.ext0 (X8.trans Y1)
  refine .p rfl rfl (.as rfl) ?_
  refine .nil (.code (.seq (.keep [(2, _), (1, _)] ⟨rfl, rfl, trivial⟩ ?_)))
  refine .meet (S := Nat × (Option Addr × Nat × Option Addr × Nat) × World) (fun s => [(2, i64 0), (3, .pointer (some ⟨s.1, 0, none⟩)), (4, i64 0)]) (fun s => s.2.2) (fun s => Blk s.2.2 s.1 44 [i64 x.count, .slice s.2.1.1 x.data.length s.2.1.2.1, .slice s.2.1.2.2.1 x.waits.length s.2.1.2.2.2] ∧ disk.tDisk.rep All s.2.2 (.agg #[i64 x.count, .slice s.2.1.1 x.data.length s.2.1.2.1, .slice s.2.1.2.2.1 x.waits.length s.2.1.2.2.2]) x ∧ Ext (fun _ => False) w1 s.2.2) ?_ ?_
  · rintro ⟨p, ⟨x16, y16, p16, q16⟩, wm⟩ ⟨Bm, Rm, Xm⟩
    simp only at Bm Rm Xm
    change A _ [(2, i64 0), (3, .pointer (some ⟨p, 0, none⟩)), (4, i64 0)] _ wm
    refine .code (.seq (.region ?_))
    refine .p rfl rfl (.loadA (n := 3) rfl rfl rfl rfl rfl Bm.cells) ?_
    refine .call (first := []) (captured := []) rfl rfl rfl rfl (FileGet_fn (d := x) (s := [97]) Rm (by decide) (hg1.ext0 Xm)) ?_
    rintro _ w21 ⟨v21, rfl, G21, X21⟩
    have z21 := X21.size
    rw [hx3] at G21 ⊢
    obtain ⟨a21, k21, rfl, _⟩ := OwnO.val G21
    refine .p rfl rfl (.mv rfl) ?_
    refine .p rfl rfl (.extract rfl rfl) ?_
    refine .p rfl rfl (.extract rfl rfl) ?_
    refine .p rfl rfl (.as rfl) ?_
    refine .p rfl rfl (.as rfl) ?_
    refine .nil (.code (.seq (.keep [(6, _), (5, _), (2, _), (4, _)] ⟨rfl, rfl, rfl, rfl, trivial⟩ (.mix (fun _ => False) [13] (by kernel_rfl) (by kernel_rfl) (by kernel_rfl) ?_))))
    refine .p rfl rfl rfl (fun wx hx => .mv rfl) ?_
    refine .p rfl rfl rfl (fun wx hx => .yes (.eq rfl rfl) (rfl)) ?_
    refine .p rfl rfl rfl (fun wx hx => .mv rfl) ?_
    refine .p rfl rfl rfl (fun wx hx => .mv rfl) ?_
    refine .p rfl rfl rfl (fun wx hx => .yes (.eq rfl rfl) (rfl)) ?_
    refine .p rfl rfl rfl (fun wx hx => .pickT rfl rfl) ?_
    refine .p rfl rfl rfl (fun wx hx => .mv rfl) ?_
    refine .p rfl rfl rfl (fun wx hx => .mv rfl) ?_
    refine .p rfl rfl rfl (fun wx hx => .yes (.eq rfl rfl) (rfl)) ?_
    refine .p rfl rfl rfl (fun wx hx => .pickT rfl rfl) ?_
    refine .p rfl rfl rfl (fun wx hx => .mv rfl) ?_
    refine .p rfl rfl rfl (fun wx hx => .mv rfl) ?_
    refine .p rfl rfl rfl (fun wx hx => .bytesStr rfl (Gr.rep (Gr.ext0 G21 (Ext.trans (by repeat (first | exact Ext.refl _ | assumption | refine Ext.trans (by assumption) ?_)) hx))) rfl rfl rfl) ?_
    refine .call (first := []) (captured := []) rfl rfl rfl rfl rfl (text_fn (n := 130) (by decide)) (by rintro _ _ ⟨_, hx⟩; exact Ext.trans (by repeat (first | exact Ext.refl _ | assumption | refine Ext.trans (by assumption) ?_)) hx) ?_
    rintro _ w37 ⟨rfl, X37⟩
    rw [← hT130]
    refine .p rfl rfl rfl (fun wx hx => .yes (.eqS rfl rfl) (rfl)) ?_
    refine .p rfl rfl rfl (fun wx hx => .pickT rfl rfl) ?_
    refine .p rfl rfl rfl (fun wx hx => .as rfl) ?_
    refine .nil (.code ?_)
    refine .ret _ rfl ?_
    exact ⟨rfl, (by repeat (first | exact Ext.refl _ | assumption | refine Ext.trans (by assumption) ?_))⟩
  · intro meet
    refine .tree (fun k => w1.heap.size ≤ k) [1, 2, 3, 4, 8, 9] (.op 0 (.alt 1 (.op 1 (.alt 2 (.op 2 (.alt 3 (.op 3 (.alt 4 (.op 4 (.op 5 (.op 6 (.op 7 (.alt 8 (.op 8 (.alt 9 (.op 9 (.op 10 (.nil))) (.stop))) (.stop)))))) (.alt 8 (.op 8 (.alt 4 (.op 4 (.op 5 (.op 6 (.op 7 (.alt 9 (.op 9 (.op 10 (.nil))) (.stop)))))) (.stop))) (.stop)))) (.alt 8 (.op 8 (.alt 3 (.op 3 (.alt 4 (.op 4 (.op 5 (.op 6 (.op 7 (.alt 9 (.op 9 (.op 10 (.nil))) (.stop)))))) (.stop))) (.stop))) (.stop)))) (.alt 8 (.op 8 (.alt 2 (.op 2 (.alt 3 (.op 3 (.alt 4 (.op 4 (.op 5 (.op 6 (.op 7 (.alt 9 (.op 9 (.op 10 (.nil))) (.stop)))))) (.stop))) (.stop))) (.stop))) (.stop)))) (.alt 8 (.op 8 (.alt 1 (.op 1 (.alt 2 (.op 2 (.alt 3 (.op 3 (.alt 4 (.op 4 (.op 5 (.op 6 (.op 7 (.alt 9 (.op 9 (.op 10 (.nil))) (.stop)))))) (.stop))) (.stop))) (.stop))) (.stop))) (.stop)))) (by kernel_rfl) (by kernel_rfl) (by kernel_rfl) ?_
    refine .p rfl rfl rfl rfl (fun wx hx => .loadA (n := 3) rfl rfl rfl rfl rfl (B1.ext hx (by show ¬ (w1.heap.size ≤ w8.heap.size); omega)).cells) ?_
    refine .alt ?_ ?_
    · refine .call (first := []) (captured := []) rfl rfl rfl rfl rfl rfl (text_fn (n := 130) (by decide)) (by rintro _ _ ⟨_, hx⟩; exact (Ext.refl _).trans (hx.mono (fun _ _ h => h.elim))) ?_
      rintro _ w13 ⟨rfl, X13⟩
      have z13 := X13.size
      rw [← hT130]
      have hX13 : Ext (fun k => w1.heap.size ≤ k) _ _ := (Ext.refl _).trans (X13.mono (fun _ _ h => h.elim))
      refine .alt ?_ ?_
      · refine .call (first := []) (captured := []) rfl rfl rfl rfl rfl rfl (lawPut_fn) (by rintro _ _ ⟨_, hx⟩; exact hX13.trans (hx.mono (fun _ _ h => h.elim))) ?_
        rintro _ w14 ⟨rfl, X14⟩
        have z14 := X14.size
        have hX14 : Ext (fun k => w1.heap.size ≤ k) _ _ := hX13.trans (X14.mono (fun _ _ h => h.elim))
        refine .alt ?_ ?_
        · refine .v rfl rfl rfl rfl (.lits rfl rfl (fun _ => by kernel_rfl)) (by rintro _ _ ⟨_, hN⟩; exact hX14.trans hN.ext0) ?_
          rintro _ w15 ⟨rfl, N15⟩
          have R15 : (Sl tree.tChange).rep All w15 (.slice _ 1 1) [⟨[97], T130, false⟩] := Sl.mk (us := [_]) (.cons (tree.tChange.mk (x := ⟨[97], T130, false⟩) (show (1 : Nat) < Lim by decide) (by rw [hTl]; decide)) .nil) (by have := N15.blk.cells; exact this) trivial N15.blk.lt (by simp) (by simp [Lim]) rfl
          have X15 := N15.ext
          have z15 := N15.size
          have hX15 : Ext (fun k => w1.heap.size ≤ k) _ _ := hX14.trans (N15.ext0)
          refine .alt ?_ ?_
          · refine .call (first := []) (captured := []) rfl rfl rfl rfl rfl rfl (turned_fn (d := F100) (l := [⟨[97], T130, false⟩]) (disk.tDisk.ext (disk.tDisk.ext0 (disk.tDisk.mono R8 (P' := fun k => k < w8.heap.size) (fun k _ hl => hl)) Y1) hX15 (by intro k hk _ he; have he : w1.heap.size ≤ k := he; have hk : k < w8.heap.size := hk; omega)) (by first | exact R15 | exact (Sl tree.tChange).ext0 R15 N3.ext) (hg1.ext hX15 (fun he => by have he : w1.heap.size ≤ _ := he; have := hg1.lt; omega))) (by rintro _ _ ⟨_, _, _, hx⟩; exact hX15.trans (hx.mono (fun _ _ h => h.elim))) ?_
            rintro _ w16 ⟨v16, rfl, R16, X16⟩
            have z16 := X16.size
            rw [hx1] at R16 ⊢
            obtain ⟨a3, k3, a4, k4, rfl⟩ := diskShape R16
            have hX16 : Ext (fun k => w1.heap.size ≤ k) _ _ := hX15.trans (X16.mono (fun _ _ h => h.elim))
            refine .p rfl rfl rfl rfl (fun wx hx => .mv rfl) ?_
            refine .p rfl rfl rfl rfl (fun wx hx => .extract rfl rfl) ?_
            refine .p rfl rfl rfl rfl (fun wx hx => .extract rfl rfl) ?_
            refine .alt ?_ ?_
            · refine .v rfl rfl rfl rfl (.alloc rfl rfl) (by rintro _ _ ⟨_, hN⟩; exact hX16.trans hN.ext0) ?_
              rintro _ w3 ⟨rfl, N3⟩
              have X3 := N3.ext
              have z3 := N3.size
              have hX3 : Ext (fun k => w1.heap.size ≤ k) _ _ := hX16.trans (N3.ext0)
              refine .alt ?_ ?_
              · refine .s rfl rfl rfl (.storeAll (n := 3) (E := 44) (cs := [i64 0, .slice none 0 0, .slice none 0 0]) rfl rfl rfl rfl rfl (by first | exact N3.blk | exact N3.blk.ext (S := fun _ => False) (by repeat (first | exact Ext.refl _ | assumption | refine Ext.trans (by assumption) ?_)) (fun x => x)) rfl) (by intro wz hP; exact hX3.trans (hP.ext.mono (by rintro k _ rfl; show w1.heap.size ≤ _; omega))) ?_
                intro ws P3
                have hXs9 : Ext (fun k => w1.heap.size ≤ k) _ _ := hX3.trans (P3.ext.mono (by rintro k _ rfl; show w1.heap.size ≤ _; omega))
                refine .p rfl rfl rfl rfl (fun wx hx => .as rfl) ?_
                refine .nil ?_
                have zs := P3.size
                exact (meet (w16.heap.size, (a3, k3, a4, k4), ws) ⟨P3.blk, allOf (disk.tDisk.ext (disk.tDisk.ext0 (disk.tDisk.mono R16 (P' := fun k => (k < w16.heap.size ∧ True) ∨ False) (fun k _ hl => .inl ⟨hl, trivial⟩)) N3.ext) P3.ext (fun k hk _ he => by have he : k = w16.heap.size := he; rcases hk with ⟨hk, _⟩ | hk <;> first | omega | exact hk.elim)), (Ext.refl w1).then hXs9 (fun k hk _ => hk)⟩).of ⟨rfl, rfl, rfl, trivial⟩
              exact .stop
            exact .stop
          refine .alt ?_ ?_
          · refine .v rfl rfl rfl rfl (.alloc rfl rfl) (by rintro _ _ ⟨_, hN⟩; exact hX15.trans hN.ext0) ?_
            rintro _ w3 ⟨rfl, N3⟩
            have X3 := N3.ext
            have z3 := N3.size
            have hX3 : Ext (fun k => w1.heap.size ≤ k) _ _ := hX15.trans (N3.ext0)
            refine .alt ?_ ?_
            · refine .call (first := []) (captured := []) rfl rfl rfl rfl rfl rfl (turned_fn (d := F100) (l := [⟨[97], T130, false⟩]) (disk.tDisk.ext (disk.tDisk.ext0 (disk.tDisk.mono R8 (P' := fun k => k < w8.heap.size) (fun k _ hl => hl)) Y1) hX3 (by intro k hk _ he; have he : w1.heap.size ≤ k := he; have hk : k < w8.heap.size := hk; omega)) (by first | exact R15 | exact (Sl tree.tChange).ext0 R15 N3.ext) (hg1.ext hX3 (fun he => by have he : w1.heap.size ≤ _ := he; have := hg1.lt; omega))) (by rintro _ _ ⟨_, _, _, hx⟩; exact hX3.trans (hx.mono (fun _ _ h => h.elim))) ?_
              rintro _ w16 ⟨v16, rfl, R16, X16⟩
              have z16 := X16.size
              rw [hx1] at R16 ⊢
              obtain ⟨a3, k3, a4, k4, rfl⟩ := diskShape R16
              have hX16 : Ext (fun k => w1.heap.size ≤ k) _ _ := hX3.trans (X16.mono (fun _ _ h => h.elim))
              refine .p rfl rfl rfl rfl (fun wx hx => .mv rfl) ?_
              refine .p rfl rfl rfl rfl (fun wx hx => .extract rfl rfl) ?_
              refine .p rfl rfl rfl rfl (fun wx hx => .extract rfl rfl) ?_
              refine .alt ?_ ?_
              · refine .s rfl rfl rfl (.storeAll (n := 3) (E := 44) (cs := [i64 0, .slice none 0 0, .slice none 0 0]) rfl rfl rfl rfl rfl (by first | exact N3.blk | exact N3.blk.ext (S := fun _ => False) (by repeat (first | exact Ext.refl _ | assumption | refine Ext.trans (by assumption) ?_)) (fun x => x)) rfl) (by intro wz hP; exact hX16.trans (hP.ext.mono (by rintro k _ rfl; show w1.heap.size ≤ _; omega))) ?_
                intro ws P3
                have hXs9 : Ext (fun k => w1.heap.size ≤ k) _ _ := hX16.trans (P3.ext.mono (by rintro k _ rfl; show w1.heap.size ≤ _; omega))
                refine .p rfl rfl rfl rfl (fun wx hx => .as rfl) ?_
                refine .nil ?_
                have zs := P3.size
                exact (meet (w15.heap.size, (a3, k3, a4, k4), ws) ⟨P3.blk, allOf (disk.tDisk.ext (R16) P3.ext (fun k hk _ he => by have he : k = w15.heap.size := he; rcases hk with ⟨hk, _⟩ | hk <;> first | omega | exact hk.elim)), (Ext.refl w1).then hXs9 (fun k hk _ => hk)⟩).of ⟨rfl, rfl, rfl, trivial⟩
              exact .stop
            exact .stop
          exact .stop
        refine .alt ?_ ?_
        · refine .v rfl rfl rfl rfl (.alloc rfl rfl) (by rintro _ _ ⟨_, hN⟩; exact hX14.trans hN.ext0) ?_
          rintro _ w3 ⟨rfl, N3⟩
          have X3 := N3.ext
          have z3 := N3.size
          have hX3 : Ext (fun k => w1.heap.size ≤ k) _ _ := hX14.trans (N3.ext0)
          refine .alt ?_ ?_
          · refine .v rfl rfl rfl rfl (.lits rfl rfl (fun _ => by kernel_rfl)) (by rintro _ _ ⟨_, hN⟩; exact hX3.trans hN.ext0) ?_
            rintro _ w15 ⟨rfl, N15⟩
            have R15 : (Sl tree.tChange).rep All w15 (.slice _ 1 1) [⟨[97], T130, false⟩] := Sl.mk (us := [_]) (.cons (tree.tChange.mk (x := ⟨[97], T130, false⟩) (show (1 : Nat) < Lim by decide) (by rw [hTl]; decide)) .nil) (by have := N15.blk.cells; exact this) trivial N15.blk.lt (by simp) (by simp [Lim]) rfl
            have X15 := N15.ext
            have z15 := N15.size
            have hX15 : Ext (fun k => w1.heap.size ≤ k) _ _ := hX3.trans (N15.ext0)
            refine .alt ?_ ?_
            · refine .call (first := []) (captured := []) rfl rfl rfl rfl rfl rfl (turned_fn (d := F100) (l := [⟨[97], T130, false⟩]) (disk.tDisk.ext (disk.tDisk.ext0 (disk.tDisk.mono R8 (P' := fun k => k < w8.heap.size) (fun k _ hl => hl)) Y1) hX15 (by intro k hk _ he; have he : w1.heap.size ≤ k := he; have hk : k < w8.heap.size := hk; omega)) (by first | exact R15 | exact (Sl tree.tChange).ext0 R15 N3.ext) (hg1.ext hX15 (fun he => by have he : w1.heap.size ≤ _ := he; have := hg1.lt; omega))) (by rintro _ _ ⟨_, _, _, hx⟩; exact hX15.trans (hx.mono (fun _ _ h => h.elim))) ?_
              rintro _ w16 ⟨v16, rfl, R16, X16⟩
              have z16 := X16.size
              rw [hx1] at R16 ⊢
              obtain ⟨a3, k3, a4, k4, rfl⟩ := diskShape R16
              have hX16 : Ext (fun k => w1.heap.size ≤ k) _ _ := hX15.trans (X16.mono (fun _ _ h => h.elim))
              refine .p rfl rfl rfl rfl (fun wx hx => .mv rfl) ?_
              refine .p rfl rfl rfl rfl (fun wx hx => .extract rfl rfl) ?_
              refine .p rfl rfl rfl rfl (fun wx hx => .extract rfl rfl) ?_
              refine .alt ?_ ?_
              · refine .s rfl rfl rfl (.storeAll (n := 3) (E := 44) (cs := [i64 0, .slice none 0 0, .slice none 0 0]) rfl rfl rfl rfl rfl (by first | exact N3.blk | exact N3.blk.ext (S := fun _ => False) (by repeat (first | exact Ext.refl _ | assumption | refine Ext.trans (by assumption) ?_)) (fun x => x)) rfl) (by intro wz hP; exact hX16.trans (hP.ext.mono (by rintro k _ rfl; show w1.heap.size ≤ _; omega))) ?_
                intro ws P3
                have hXs9 : Ext (fun k => w1.heap.size ≤ k) _ _ := hX16.trans (P3.ext.mono (by rintro k _ rfl; show w1.heap.size ≤ _; omega))
                refine .p rfl rfl rfl rfl (fun wx hx => .as rfl) ?_
                refine .nil ?_
                have zs := P3.size
                exact (meet (w14.heap.size, (a3, k3, a4, k4), ws) ⟨P3.blk, allOf (disk.tDisk.ext (R16) P3.ext (fun k hk _ he => by have he : k = w14.heap.size := he; rcases hk with ⟨hk, _⟩ | hk <;> first | omega | exact hk.elim)), (Ext.refl w1).then hXs9 (fun k hk _ => hk)⟩).of ⟨rfl, rfl, rfl, trivial⟩
              exact .stop
            exact .stop
          exact .stop
        exact .stop
      refine .alt ?_ ?_
      · refine .v rfl rfl rfl rfl (.alloc rfl rfl) (by rintro _ _ ⟨_, hN⟩; exact hX13.trans hN.ext0) ?_
        rintro _ w3 ⟨rfl, N3⟩
        have X3 := N3.ext
        have z3 := N3.size
        have hX3 : Ext (fun k => w1.heap.size ≤ k) _ _ := hX13.trans (N3.ext0)
        refine .alt ?_ ?_
        · refine .call (first := []) (captured := []) rfl rfl rfl rfl rfl rfl (lawPut_fn) (by rintro _ _ ⟨_, hx⟩; exact hX3.trans (hx.mono (fun _ _ h => h.elim))) ?_
          rintro _ w14 ⟨rfl, X14⟩
          have z14 := X14.size
          have hX14 : Ext (fun k => w1.heap.size ≤ k) _ _ := hX3.trans (X14.mono (fun _ _ h => h.elim))
          refine .alt ?_ ?_
          · refine .v rfl rfl rfl rfl (.lits rfl rfl (fun _ => by kernel_rfl)) (by rintro _ _ ⟨_, hN⟩; exact hX14.trans hN.ext0) ?_
            rintro _ w15 ⟨rfl, N15⟩
            have R15 : (Sl tree.tChange).rep All w15 (.slice _ 1 1) [⟨[97], T130, false⟩] := Sl.mk (us := [_]) (.cons (tree.tChange.mk (x := ⟨[97], T130, false⟩) (show (1 : Nat) < Lim by decide) (by rw [hTl]; decide)) .nil) (by have := N15.blk.cells; exact this) trivial N15.blk.lt (by simp) (by simp [Lim]) rfl
            have X15 := N15.ext
            have z15 := N15.size
            have hX15 : Ext (fun k => w1.heap.size ≤ k) _ _ := hX14.trans (N15.ext0)
            refine .alt ?_ ?_
            · refine .call (first := []) (captured := []) rfl rfl rfl rfl rfl rfl (turned_fn (d := F100) (l := [⟨[97], T130, false⟩]) (disk.tDisk.ext (disk.tDisk.ext0 (disk.tDisk.mono R8 (P' := fun k => k < w8.heap.size) (fun k _ hl => hl)) Y1) hX15 (by intro k hk _ he; have he : w1.heap.size ≤ k := he; have hk : k < w8.heap.size := hk; omega)) (by first | exact R15 | exact (Sl tree.tChange).ext0 R15 N3.ext) (hg1.ext hX15 (fun he => by have he : w1.heap.size ≤ _ := he; have := hg1.lt; omega))) (by rintro _ _ ⟨_, _, _, hx⟩; exact hX15.trans (hx.mono (fun _ _ h => h.elim))) ?_
              rintro _ w16 ⟨v16, rfl, R16, X16⟩
              have z16 := X16.size
              rw [hx1] at R16 ⊢
              obtain ⟨a3, k3, a4, k4, rfl⟩ := diskShape R16
              have hX16 : Ext (fun k => w1.heap.size ≤ k) _ _ := hX15.trans (X16.mono (fun _ _ h => h.elim))
              refine .p rfl rfl rfl rfl (fun wx hx => .mv rfl) ?_
              refine .p rfl rfl rfl rfl (fun wx hx => .extract rfl rfl) ?_
              refine .p rfl rfl rfl rfl (fun wx hx => .extract rfl rfl) ?_
              refine .alt ?_ ?_
              · refine .s rfl rfl rfl (.storeAll (n := 3) (E := 44) (cs := [i64 0, .slice none 0 0, .slice none 0 0]) rfl rfl rfl rfl rfl (by first | exact N3.blk | exact N3.blk.ext (S := fun _ => False) (by repeat (first | exact Ext.refl _ | assumption | refine Ext.trans (by assumption) ?_)) (fun x => x)) rfl) (by intro wz hP; exact hX16.trans (hP.ext.mono (by rintro k _ rfl; show w1.heap.size ≤ _; omega))) ?_
                intro ws P3
                have hXs9 : Ext (fun k => w1.heap.size ≤ k) _ _ := hX16.trans (P3.ext.mono (by rintro k _ rfl; show w1.heap.size ≤ _; omega))
                refine .p rfl rfl rfl rfl (fun wx hx => .as rfl) ?_
                refine .nil ?_
                have zs := P3.size
                exact (meet (w13.heap.size, (a3, k3, a4, k4), ws) ⟨P3.blk, allOf (disk.tDisk.ext (R16) P3.ext (fun k hk _ he => by have he : k = w13.heap.size := he; rcases hk with ⟨hk, _⟩ | hk <;> first | omega | exact hk.elim)), (Ext.refl w1).then hXs9 (fun k hk _ => hk)⟩).of ⟨rfl, rfl, rfl, trivial⟩
              exact .stop
            exact .stop
          exact .stop
        exact .stop
      exact .stop
    refine .alt ?_ ?_
    · refine .v rfl rfl rfl rfl (.alloc rfl rfl) (by rintro _ _ ⟨_, hN⟩; exact (Ext.refl _).trans hN.ext0) ?_
      rintro _ w3 ⟨rfl, N3⟩
      have X3 := N3.ext
      have z3 := N3.size
      have hX3 : Ext (fun k => w1.heap.size ≤ k) _ _ := (Ext.refl _).trans (N3.ext0)
      refine .alt ?_ ?_
      · refine .call (first := []) (captured := []) rfl rfl rfl rfl rfl rfl (text_fn (n := 130) (by decide)) (by rintro _ _ ⟨_, hx⟩; exact hX3.trans (hx.mono (fun _ _ h => h.elim))) ?_
        rintro _ w13 ⟨rfl, X13⟩
        have z13 := X13.size
        rw [← hT130]
        have hX13 : Ext (fun k => w1.heap.size ≤ k) _ _ := hX3.trans (X13.mono (fun _ _ h => h.elim))
        refine .alt ?_ ?_
        · refine .call (first := []) (captured := []) rfl rfl rfl rfl rfl rfl (lawPut_fn) (by rintro _ _ ⟨_, hx⟩; exact hX13.trans (hx.mono (fun _ _ h => h.elim))) ?_
          rintro _ w14 ⟨rfl, X14⟩
          have z14 := X14.size
          have hX14 : Ext (fun k => w1.heap.size ≤ k) _ _ := hX13.trans (X14.mono (fun _ _ h => h.elim))
          refine .alt ?_ ?_
          · refine .v rfl rfl rfl rfl (.lits rfl rfl (fun _ => by kernel_rfl)) (by rintro _ _ ⟨_, hN⟩; exact hX14.trans hN.ext0) ?_
            rintro _ w15 ⟨rfl, N15⟩
            have R15 : (Sl tree.tChange).rep All w15 (.slice _ 1 1) [⟨[97], T130, false⟩] := Sl.mk (us := [_]) (.cons (tree.tChange.mk (x := ⟨[97], T130, false⟩) (show (1 : Nat) < Lim by decide) (by rw [hTl]; decide)) .nil) (by have := N15.blk.cells; exact this) trivial N15.blk.lt (by simp) (by simp [Lim]) rfl
            have X15 := N15.ext
            have z15 := N15.size
            have hX15 : Ext (fun k => w1.heap.size ≤ k) _ _ := hX14.trans (N15.ext0)
            refine .alt ?_ ?_
            · refine .call (first := []) (captured := []) rfl rfl rfl rfl rfl rfl (turned_fn (d := F100) (l := [⟨[97], T130, false⟩]) (disk.tDisk.ext (disk.tDisk.ext0 (disk.tDisk.mono R8 (P' := fun k => k < w8.heap.size) (fun k _ hl => hl)) Y1) hX15 (by intro k hk _ he; have he : w1.heap.size ≤ k := he; have hk : k < w8.heap.size := hk; omega)) (by first | exact R15 | exact (Sl tree.tChange).ext0 R15 N3.ext) (hg1.ext hX15 (fun he => by have he : w1.heap.size ≤ _ := he; have := hg1.lt; omega))) (by rintro _ _ ⟨_, _, _, hx⟩; exact hX15.trans (hx.mono (fun _ _ h => h.elim))) ?_
              rintro _ w16 ⟨v16, rfl, R16, X16⟩
              have z16 := X16.size
              rw [hx1] at R16 ⊢
              obtain ⟨a3, k3, a4, k4, rfl⟩ := diskShape R16
              have hX16 : Ext (fun k => w1.heap.size ≤ k) _ _ := hX15.trans (X16.mono (fun _ _ h => h.elim))
              refine .p rfl rfl rfl rfl (fun wx hx => .mv rfl) ?_
              refine .p rfl rfl rfl rfl (fun wx hx => .extract rfl rfl) ?_
              refine .p rfl rfl rfl rfl (fun wx hx => .extract rfl rfl) ?_
              refine .alt ?_ ?_
              · refine .s rfl rfl rfl (.storeAll (n := 3) (E := 44) (cs := [i64 0, .slice none 0 0, .slice none 0 0]) rfl rfl rfl rfl rfl (by first | exact N3.blk | exact N3.blk.ext (S := fun _ => False) (by repeat (first | exact Ext.refl _ | assumption | refine Ext.trans (by assumption) ?_)) (fun x => x)) rfl) (by intro wz hP; exact hX16.trans (hP.ext.mono (by rintro k _ rfl; show w1.heap.size ≤ _; omega))) ?_
                intro ws P3
                have hXs9 : Ext (fun k => w1.heap.size ≤ k) _ _ := hX16.trans (P3.ext.mono (by rintro k _ rfl; show w1.heap.size ≤ _; omega))
                refine .p rfl rfl rfl rfl (fun wx hx => .as rfl) ?_
                refine .nil ?_
                have zs := P3.size
                exact (meet (w1.heap.size, (a3, k3, a4, k4), ws) ⟨P3.blk, allOf (disk.tDisk.ext (R16) P3.ext (fun k hk _ he => by have he : k = w1.heap.size := he; rcases hk with ⟨hk, _⟩ | hk <;> first | omega | exact hk.elim)), (Ext.refl w1).then hXs9 (fun k hk _ => hk)⟩).of ⟨rfl, rfl, rfl, trivial⟩
              exact .stop
            exact .stop
          exact .stop
        exact .stop
      exact .stop
    exact .stop
end Go.Proofs.YtpfehnopghffjaaGreatDoor
/-
  What the listed package variables give a walk; a world that lays them.
-/
namespace Go.Proofs.YtpfehnopghffjaaGreatDoor
open Go Go.RowKit files
namespace files
theorem own : ownKnob Tryz.prog.godebug = none := by kernel_rfl
theorem tyError : (List.range 305).filter (fun t => Tryz.prog.rowNamed t [101, 114, 114, 111, 114]) = [94] := by kernel_rfl
theorem tySize : Tryz.prog.types.size = 305 := by kernel_rfl
theorem tyRt : (Tryz.prog.cutTypes.find? (·.1 == "internal/reflectlite.rtype")).map (·.2) = some 235 := by kernel_rfl
theorem glErr : Tryz.prog.globalNamed "errors.errorType" = some 0 := by kernel_rfl
def L0 : List (String × DataW Unit) := [("unicode/utf8.acceptRanges", Rows.laid_unicode_utf8_acceptRanges), ("errors.errorType", Rows.laid_errors_errorType), ("unicode/utf8.first", Rows.laid_unicode_utf8_first)]
theorem gok_of_laid {W : World} (h : laidMetH Tryz.prog L0 W) : GOK W := by
  have h' : laidMet Tryz.prog [("unicode/utf8.acceptRanges", Rows.laid_unicode_utf8_acceptRanges), ("unicode/utf8.first", Rows.laid_unicode_utf8_first)] W ∧ handlesMet Tryz.prog [("errors.errorType", Rows.laid_errors_errorType)] W := h
  obtain ⟨name, u, ty, e1, e2, e3, e4, e5⟩ := h'.2 _ (List.mem_singleton.2 rfl)
  have en : name = [101, 114, 114, 111, 114] := (Option.some.inj e1).symm
  subst en
  obtain rfl := Option.some.inj (tyRt.symm.trans e2)
  have hm : ty ∈ (List.range 305).filter fun t => Tryz.prog.rowNamed t [101, 114, 114, 111, 114] := List.mem_filter.2 ⟨List.mem_range.2 (by rw [← tySize]; exact e3), e4⟩
  rw [tyError] at hm
  obtain rfl := List.mem_singleton.1 hm
  have hh : typeHandle Tryz.prog 94 = .pointer (some ⟨4, 94, none⟩) := by kernel_rfl
  rw [hh] at e5
  have := World.var?_cell glErr e5 0
  unfold GOK
  simpa using this
noncomputable def accCells : Array Value := (([128, 191, 160, 191, 128, 159, 144, 191, 128, 143] ++ List.replicate 22 0).map (fun (n : Nat) => Value.int .u8 n)).toArray
noncomputable def firstCells : Array Value := (Go.Pinned.utf8FirstZ.map (fun (n : Nat) => Value.int .u8 n)).toArray
noncomputable def putIn (cs : Array Value) : Obj → Obj
  | .cells _ t frozen => .cells cs t frozen
  | o => o
noncomputable def laidWorld (os : Os) : World :=
  { World.holding Tryz.prog os ⟨#[], #[], []⟩ with heap := (((World.holding Tryz.prog os ⟨#[], #[], []⟩).heap.modify 0 (putIn #[.iface 235 (.agg #[.pointer (some ⟨4, 94, none⟩)])])).modify 2 (putIn firstCells)).modify 3 (putIn accCells) }
theorem laid_met (os : Os) (args : Array Value) : laidMetH Tryz.prog L0 ((laidWorld os).forCall (fun _ _ => 0) ⟨#[], args, []⟩).memory :=
  laidMetH_of_parts (laidMet_of_run3 8 (by kernel_rfl) (by kernel_rfl) (by kernel_rfl)) (by kernel_rfl)
end files
end Go.Proofs.YtpfehnopghffjaaGreatDoor
