import Derived.Test.YtpfehnopghffjaaGreatDoorT13
import Derived.Test.YtpfehnopghffjaaGreatDoorT18
import Derived.Test.YtpfehnopghffjaaGreatDoorT08
import Derived.Laws.StructEq
import Derived.Test.YtpfehnopghffjaaGreatDoorRows
import Derived.Test.YtpfehnopghffjaaGreatDoorT02
set_option linter.unusedVariables false
set_option linter.unusedSimpArgs false
set_option maxRecDepth 20000
namespace Go.Proofs.YtpfehnopghffjaaGreatDoor
open Go
open room files
namespace files
noncomputable def b1 : Bs := (writeF ⟨1, []⟩).1
end files
end Go.Proofs.YtpfehnopghffjaaGreatDoor
namespace Go.Proofs.YtpfehnopghffjaaGreatDoor
open Go
open room files
namespace files
def largeP (d : Disk) : Prop := (40000 < d.data.length ∧ 0 < d.count ∧ d.count ≤ 4096) ∨ 600000 < d.data.length ∨ 300 < d.waits.length
instance (d : Disk) : Decidable (files.largeP d) := by unfold files.largeP; infer_instance
def largeL (d : Disk) : Bool := decide (files.largeP d)
theorem largeL_not {d : Disk} (h : largeL d = false) : d.data.length ≤ 600000 ∧ d.waits.length ≤ 300 ∧ (0 < d.count → d.count ≤ 4096 → d.data.length ≤ 40000) := by
 have h := of_decide_eq_false h
 unfold files.largeP at h
 omega
def sumV : List Change → Nat
 | [] => 0
 | c :: l => min c.value.length 1000000 + sumV l
theorem sumV_take {l : List Change} {i : Nat} (h : i < l.length) : sumV (l.take (i + 1)) = sumV (l.take i) + min l[i].value.length 1000000 := by
 induction l generalizing i with
 | nil => exact absurd h (Nat.not_lt_zero _)
 | cons c l ih =>
  cases i with
  | zero => simp [sumV]
  | succ i =>
   have h : i < l.length := by simpa using h
   simp only [List.take_succ_cons, sumV, List.getElem_cons_succ]
   rw [ih h]
   omega
theorem sumV_le (l : List Change) : sumV l ≤ l.length * 1000000 := by
 induction l with
 | nil => simp [sumV]
 | cons c l ih => simp only [sumV, List.length_cons]; omega
def heavyL (l : List Change) : Bool := decide (200 < l.length ∨ 700000 < sumV l)
theorem heavyL_not {l : List Change} (h : heavyL l = false) : l.length ≤ 200 ∧ sumV l ≤ 700000 := by
 have h := of_decide_eq_false h
 omega
end files
theorem diskShape {P : Nat → Prop} {w : World} {v : Value} {d : Disk} (h : disk.tDisk.rep P w v d) : ∃ a1 c1 a2 c2, v = .agg #[i64 d.count, .slice a1 d.data.length c1, .slice a2 d.waits.length c2] := by
 obtain ⟨u1, u2, rfl, h1, h2, _⟩ := disk.tDisk.val h
 obtain ⟨a1, c1, rfl, _⟩ := Sl.val h1
 obtain ⟨a2, c2, rfl, _⟩ := Sl.val h2
 exact ⟨a1, c1, a2, c2, rfl⟩
theorem Ev.addWrap {P : Program} {e : Env} {x y : Operand} {w : World} {k : IntKind} {a b : Int} {T T' : TypeId} (hx : look e x = some (.int k a)) (hy : look e y = some (.int k b)) : Ev P e (.binOp .add T x y T') w (.int k (k.wrap (a + b))) :=
 fun w' _ ρ hρ o ho => by simp [execOp, ho, hρ _ _ hx, hρ _ _ hy, eqGuard, binOp, Op.intArith]
theorem filesLarge_fn {w : World} {v : Value} {d : Disk} (h : disk.tDisk.rep All w v d) : Fn Tryz.prog 17 [v] w (fun r w2 => r = .bool (files.largeL d) ∧ Ext (fun _ => False) w w2) := by
 obtain ⟨u, u', rfl, hd, hw, hc1, hc2⟩ := disk.tDisk.val h
 obtain ⟨a, cap, rfl, hcap⟩ := Sl.val hd
 obtain ⟨aw, capw, rfl, hcapw⟩ := Sl.val hw
 refine Fn.enter (fun w => Tryz.call17 _ w) Tryz.func17 rfl ?_
 refine .seq (.region ?_)
 refine .v rfl rfl (.box rfl) ?_
 rintro _ w1 ⟨rfl, N1⟩
 have B1 := N1.blk
 refine .p rfl rfl (.as rfl) (.nil (.code (.seq (.keep [(1, _)] ⟨rfl, trivial⟩ (.region ?_)))))
 refine .p rfl rfl (.fieldAddr rfl rfl rfl rfl) (.p rfl rfl (.load rfl rfl rfl (B1.cell 1)) (.p rfl rfl (.len rfl rfl) (.p rfl rfl (.gt rfl rfl) (.p rfl rfl (.mv rfl) ?_))))
 refine .caseD 7 rfl (fun c7 => ?_) (fun c7 => ?_)
 ·refine .p rfl rfl (.fieldAddr rfl rfl rfl rfl) (.p rfl rfl (.load rfl rfl rfl (B1.cell 0)) (.p rfl rfl (.gt rfl rfl) (.p rfl rfl (.pickT rfl rfl) (.p rfl rfl (.mv rfl) ?_))))
  refine .caseD 12 rfl (fun c12 => ?_) (fun c12 => ?_)
  ·refine .p rfl rfl (.fieldAddr rfl rfl rfl rfl) (.p rfl rfl (.load rfl rfl rfl (B1.cell 0)) (.p rfl rfl (.le rfl rfl) (.p rfl rfl (.pickT rfl rfl) (.p rfl rfl (.mv rfl) ?_))))
   refine .caseD 17 rfl (fun c17 => ?_) (fun c17 => ?_)
   ·refine .skip rfl rfl (.skip rfl rfl (.skip rfl rfl (.skip rfl rfl (.p rfl rfl (.pickT rfl rfl) (.p rfl rfl (.mv rfl) (.skip rfl rfl (.skip rfl rfl (.skip rfl rfl (.skip rfl rfl (.p rfl rfl (.pickT rfl rfl) (.p rfl rfl (.as rfl) (.nil (.code ?_)))))))))))))
    refine .ret _ rfl ?_
    refine ⟨?_, N1.ext⟩
    first
     | (rw [show files.largeL d = true from decide_eq_true (by unfold files.largeP; omega)]; rfl)
     | (rw [show files.largeL d = false from decide_eq_false (by unfold files.largeP; omega)]; rfl)
     | exact congrArg Value.bool (decide_eq_decide.2 ⟨fun hh => by unfold files.largeP; omega, fun hh => by unfold files.largeP at hh; omega⟩)
   ·refine .p rfl rfl (.fieldAddr rfl rfl rfl rfl) (.p rfl rfl (.load rfl rfl rfl (B1.cell 1)) (.p rfl rfl (.len rfl rfl) (.p rfl rfl (.gt rfl rfl) (.p rfl rfl (.pickF rfl rfl) (.p rfl rfl (.mv rfl) ?_)))))
    refine .caseD 23 rfl (fun c23 => ?_) (fun c23 => ?_)
    ·refine .skip rfl rfl (.skip rfl rfl (.skip rfl rfl (.skip rfl rfl (.p rfl rfl (.pickT rfl rfl) (.p rfl rfl (.as rfl) (.nil (.code ?_)))))))
     refine .ret _ rfl ?_
     refine ⟨?_, N1.ext⟩
     first
      | (rw [show files.largeL d = true from decide_eq_true (by unfold files.largeP; omega)]; rfl)
      | (rw [show files.largeL d = false from decide_eq_false (by unfold files.largeP; omega)]; rfl)
      | exact congrArg Value.bool (decide_eq_decide.2 ⟨fun hh => by unfold files.largeP; omega, fun hh => by unfold files.largeP at hh; omega⟩)
    ·refine .p rfl rfl (.fieldAddr rfl rfl rfl rfl) (.p rfl rfl (.load rfl rfl rfl (B1.cell 2)) (.p rfl rfl (.len rfl rfl) (.p rfl rfl (.gt rfl rfl) (.p rfl rfl (.pickF rfl rfl) (.p rfl rfl (.as rfl) (.nil (.code ?_)))))))
     refine .ret _ rfl ?_
     refine ⟨?_, N1.ext⟩
     first
      | (rw [show files.largeL d = true from decide_eq_true (by unfold files.largeP; omega)]; rfl)
      | (rw [show files.largeL d = false from decide_eq_false (by unfold files.largeP; omega)]; rfl)
      | exact congrArg Value.bool (decide_eq_decide.2 ⟨fun hh => by unfold files.largeP; omega, fun hh => by unfold files.largeP at hh; omega⟩)
  ·refine .skip rfl rfl (.skip rfl rfl (.skip rfl rfl (.p rfl rfl (.pickF rfl rfl) (.p rfl rfl (.mv rfl) (.p rfl rfl (.fieldAddr rfl rfl rfl rfl) (.p rfl rfl (.load rfl rfl rfl (B1.cell 1)) (.p rfl rfl (.len rfl rfl) (.p rfl rfl (.gt rfl rfl) (.p rfl rfl (.pickF rfl rfl) (.p rfl rfl (.mv rfl) ?_))))))))))
   refine .caseD 23 rfl (fun c23 => ?_) (fun c23 => ?_)
   ·refine .skip rfl rfl (.skip rfl rfl (.skip rfl rfl (.skip rfl rfl (.p rfl rfl (.pickT rfl rfl) (.p rfl rfl (.as rfl) (.nil (.code ?_)))))))
    refine .ret _ rfl ?_
    refine ⟨?_, N1.ext⟩
    first
     | (rw [show files.largeL d = true from decide_eq_true (by unfold files.largeP; omega)]; rfl)
     | (rw [show files.largeL d = false from decide_eq_false (by unfold files.largeP; omega)]; rfl)
     | exact congrArg Value.bool (decide_eq_decide.2 ⟨fun hh => by unfold files.largeP; omega, fun hh => by unfold files.largeP at hh; omega⟩)
   ·refine .p rfl rfl (.fieldAddr rfl rfl rfl rfl) (.p rfl rfl (.load rfl rfl rfl (B1.cell 2)) (.p rfl rfl (.len rfl rfl) (.p rfl rfl (.gt rfl rfl) (.p rfl rfl (.pickF rfl rfl) (.p rfl rfl (.as rfl) (.nil (.code ?_)))))))
    refine .ret _ rfl ?_
    refine ⟨?_, N1.ext⟩
    first
     | (rw [show files.largeL d = true from decide_eq_true (by unfold files.largeP; omega)]; rfl)
     | (rw [show files.largeL d = false from decide_eq_false (by unfold files.largeP; omega)]; rfl)
     | exact congrArg Value.bool (decide_eq_decide.2 ⟨fun hh => by unfold files.largeP; omega, fun hh => by unfold files.largeP at hh; omega⟩)
 ·refine .skip rfl rfl (.skip rfl rfl (.skip rfl rfl (.p rfl rfl (.pickF rfl rfl) (.p rfl rfl (.mv rfl) (.skip rfl rfl (.skip rfl rfl (.skip rfl rfl (.p rfl rfl (.pickF rfl rfl) (.p rfl rfl (.mv rfl) (.p rfl rfl (.fieldAddr rfl rfl rfl rfl) (.p rfl rfl (.load rfl rfl rfl (B1.cell 1)) (.p rfl rfl (.len rfl rfl) (.p rfl rfl (.gt rfl rfl) ?_)))))))))))))
  refine .p rfl rfl (.pickF rfl rfl) (.p rfl rfl (.mv rfl) ?_)
  refine .caseD 23 rfl (fun c23 => ?_) (fun c23 => ?_)
  ·refine .skip rfl rfl (.skip rfl rfl (.skip rfl rfl (.skip rfl rfl (.p rfl rfl (.pickT rfl rfl) (.p rfl rfl (.as rfl) (.nil (.code ?_)))))))
   refine .ret _ rfl ?_
   refine ⟨?_, N1.ext⟩
   first
    | (rw [show files.largeL d = true from decide_eq_true (by unfold files.largeP; omega)]; rfl)
    | (rw [show files.largeL d = false from decide_eq_false (by unfold files.largeP; omega)]; rfl)
    | exact congrArg Value.bool (decide_eq_decide.2 ⟨fun hh => by unfold files.largeP; omega, fun hh => by unfold files.largeP at hh; omega⟩)
  ·refine .p rfl rfl (.fieldAddr rfl rfl rfl rfl) (.p rfl rfl (.load rfl rfl rfl (B1.cell 2)) (.p rfl rfl (.len rfl rfl) (.p rfl rfl (.gt rfl rfl) (.p rfl rfl (.pickF rfl rfl) (.p rfl rfl (.as rfl) (.nil (.code ?_)))))))
   refine .ret _ rfl ?_
   refine ⟨?_, N1.ext⟩
   first
    | (rw [show files.largeL d = true from decide_eq_true (by unfold files.largeP; omega)]; rfl)
    | (rw [show files.largeL d = false from decide_eq_false (by unfold files.largeP; omega)]; rfl)
    | exact congrArg Value.bool (decide_eq_decide.2 ⟨fun hh => by unfold files.largeP; omega, fun hh => by unfold files.largeP at hh; omega⟩)
theorem heavy_fn {w : World} {v : Value} {l : List Change} (h : (Sl tree.tChange).rep All w v l) : Fn Tryz.prog 27 [v] w (fun r w2 => r = .bool (heavyL l) ∧ Ext (fun _ => False) w w2) := by
 obtain ⟨al, kl, rfl, _⟩ := Sl.val h
 have hlim := Sl.lim h
 simp only [Lim] at hlim
 refine Fn.enter (fun w => Tryz.call27 _ w) Tryz.func27 rfl ?_
 refine .seq (.region ?_)
 refine .p rfl rfl (.as rfl) (.nil (.code (.seq (.keep [(0, _)] ⟨rfl, trivial⟩ (.region ?_)))))
 refine .p rfl rfl (.as rfl) (.nil (.code (.seq (.seq (.region ?_)))))
 refine .p rfl rfl (.as rfl) (.nil (.code (.block ?_)))
 refine .loop (S := Nat × Int) (fun s => [(0, .slice al l.length kl), (3, i64 s.2), (4, i64 s.1)]) (fun s => w) (fun s => s.1 ≤ l.length ∧ (l.length ≤ 200 → s.2 = (sumV (l.take s.1) : Nat))) (fun s => l.length - s.1) (0, 0) ⟨rfl, rfl, rfl, trivial⟩ rfl ⟨Nat.zero_le _, fun _ => rfl⟩ ?_
 rintro ⟨i, sm⟩ J ⟨hi', hsm⟩ again
 simp only at hi' hsm
 change G _ [(0, .slice al l.length kl), (3, i64 sm), (4, i64 i)] _ _ w
 refine .seq (.seq (.region ?_))
 refine .p rfl rfl (.mv rfl) (.p rfl rfl (.mv rfl) (.p rfl rfl (.len rfl rfl) (.p rfl rfl (.lt rfl rfl) (.nil (.code (.keep [(8, _), (0, _), (3, _), (4, _)] ⟨rfl, rfl, rfl, rfl, trivial⟩ ?_))))))
 refine .condD rfl (fun c8 => ?_) (fun c8 => ?_)
 ·have hi : i < l.length := by omega
  obtain ⟨bc, oc, qc, uec, ec, _, hcs, hre⟩ := Sl.at h (List.getElem?_eq_getElem hi)
  cases ec
  obtain ⟨rfl, hkey, hval⟩ := tree.tChange.val hre
  have hval2 := hval
  simp only [Lim] at hval2
  refine .skip (.code (.seq (.block (.keep [(0, _), (3, _), (4, _)] ⟨rfl, rfl, rfl, trivial⟩ (.region ?_)))))
  refine .p rfl rfl (.mv rfl) (.p rfl rfl (.mv rfl) (.p rfl rfl (.mv rfl) (.p rfl rfl (.indexAddr (s := 3) rfl rfl rfl rfl (by omega)) (.p rfl rfl (.fieldAddr rfl rfl rfl rfl) (.p rfl rfl (.load rfl rfl rfl (hcs 1 _ rfl)) (.p rfl rfl (.lenS rfl rfl) (.p rfl rfl (.min2 rfl rfl) (.p rfl rfl (.addWrap rfl rfl) (.p rfl rfl (.as rfl) (.nil (.blk (.code (.keep [(3, _), (0, _), (4, _)] ⟨rfl, rfl, rfl, trivial⟩ (.region ?_))))))))))))))
  refine .p rfl rfl (.mv rfl) (.p rfl rfl (.add rfl rfl (by omega)) (.p rfl rfl (.as rfl) (.nil ?_)))
  exact (again (i + 1, IntKind.i64.wrap (sm + min ((l[i].value.length : Nat) : Int) 1000000)) ⟨by show i + 1 ≤ _; omega, fun h2 => by
   have h3 := hsm h2
   have h4 := sumV_take hi
   have h5 := sumV_le (l.take i)
   rw [List.length_take] at h5
   show IntKind.i64.wrap (sm + min ((l[i].value.length : Nat) : Int) 1000000) = ((sumV (l.take (i + 1)) : Nat) : Int)
   rw [IntWalk.i64_in _ (by omega), h4, h3]
   omega⟩ (by show l.length - (i + 1) < l.length - i; omega)).of ⟨rfl, rfl, rfl, trivial⟩
 ·obtain rfl : i = l.length := by omega
  refine .exit rfl (.code (.seq (.keep [(0, _), (3, _)] ⟨rfl, rfl, trivial⟩ (.region ?_))))
  refine .p rfl rfl (.mv rfl) (.p rfl rfl (.len rfl rfl) (.p rfl rfl (.gt rfl rfl) (.p rfl rfl (.mv rfl) ?_)))
  refine .caseD 23 rfl (fun c23 => ?_) (fun c23 => ?_)
  ·refine .skip rfl rfl (.skip rfl rfl (.p rfl rfl (.pickT rfl rfl) (.p rfl rfl (.as rfl) (.nil (.code ?_)))))
   refine .ret _ rfl ?_
   refine ⟨?_, .refl _⟩
   have hsl := sumV_le l
   rw [List.take_length] at hsm
   first
    | (rw [show heavyL l = true from decide_eq_true (by omega)]; rfl)
    | (rw [show heavyL l = false from decide_eq_false (by omega)]; rfl)
    | exact congrArg Value.bool (decide_eq_decide.2 ⟨fun hh => by omega, fun hh => by omega⟩)
  ·refine .p rfl rfl (.mv rfl) (.p rfl rfl (.gt rfl rfl) (.p rfl rfl (.pickF rfl rfl) (.p rfl rfl (.as rfl) (.nil (.code ?_)))))
   refine .ret _ rfl ?_
   refine ⟨?_, .refl _⟩
   have hsl := sumV_le l
   rw [List.take_length] at hsm
   first
    | (rw [show heavyL l = true from decide_eq_true (by omega)]; rfl)
    | (rw [show heavyL l = false from decide_eq_false (by omega)]; rfl)
    | exact congrArg Value.bool (decide_eq_decide.2 ⟨fun hh => by omega, fun hh => by omega⟩)
end Go.Proofs.YtpfehnopghffjaaGreatDoor
namespace Go.Proofs.YtpfehnopghffjaaGreatDoor
open Go
open room files
attribute [local irreducible] readD writeF
def WrS (E : TypeId) (s : Nat) (W : World) (Q : Nat → Prop) (v : Value) (n : Nat) : Prop := (n = 0 ∧ v = .slice none 0 0) ∨ ∃ b c ds, v = .slice (some ⟨b, 0, none⟩) n c ∧ Q b ∧ Blk W b E ds ∧ n * s ≤ ds.length
section
variable {E : TypeId} {s : Nat} {W W2 : World} {Q S : Nat → Prop} {v : Value} {n k b : Nat} {ds ds' : List Value}
theorem WrS.put (h : WrS E s W Q v n) (hB : Blk W b E ds) (P : Go.Proofs.YtpfehnopghffjaaGreatDoor.Put W W2 b E ds') (hl : ds'.length = ds.length) : WrS E s W2 Q v n := by
 rcases h with h | ⟨b1, c, ds1, rfl, hq, hB1, hn⟩
 ·exact .inl h
 ·by_cases e : b1 = b
  ·subst e
   have := hB1.inj hB
   subst this
   exact .inr ⟨b1, c, _, rfl, hq, P.blk, by omega⟩
  ·exact .inr ⟨b1, c, ds1, rfl, hq, hB1.ext P.ext e, hn⟩
theorem WrS.ext (h : WrS E s W Q v n) (hx : Ext S W W2) (hs : ∀ k, Q k → ¬ S k) : WrS E s W2 Q v n := by
 rcases h with h | ⟨b1, c, ds1, rfl, hq, hB1, hn⟩
 ·exact .inl h
 ·exact .inr ⟨b1, c, ds1, rfl, hq, hB1.ext hx (hs b1 hq), hn⟩
theorem WrS.blk {a : Option Addr} {c : Nat} (h : WrS E s W Q (.slice a n c) n) (hk : k < n) : ∃ b ds, a = some ⟨b, 0, none⟩ ∧ Q b ∧ Blk W b E ds ∧ n * s ≤ ds.length := by
 rcases h with ⟨rfl, _⟩ | ⟨b1, c, ds1, e, hq, hB1, hn⟩
 ·omega
 ·cases e
  exact ⟨b1, ds1, rfl, hq, hB1, hn⟩
end
theorem WrS.ofP {W : World} {Q : Nat → Prop} {v : Value} {l : List Piece} (h : OwnO tPiece (fun _ => False) 40 W v l Q) : WrS 40 2 W Q v l.length := by
 rcases h with ⟨h1, h2⟩ | ⟨b, h1, h2, hl, ⟨rfl, h3⟩ | ⟨cap, us, sp, e1, e2, e3, e4, e5⟩⟩
 ·exact .inl ⟨by rw [h1]; rfl, h2⟩
 ·exact .inl ⟨rfl, h3⟩
 ·refine .inr ⟨b, cap, _, e1, h1, e4, ?_⟩
  have hsz : ∀ u ∈ us, u.cells.size = 2 := e3.mem (n := 2) (fun u x h => tPiece.sz h)
  rw [List.length_append, flat_length hsz, e3.length]
  omega
def WrF (W : World) (Q : Nat → Prop) (v : Value) (fs : List File) : Prop := fs = [] ∨ ∃ b c cs, v = .slice (some ⟨b, 0, none⟩) fs.length c ∧ ¬ Q b ∧ Blk W b 28 cs ∧ ∀ i (h : i < fs.length), ∃ a k, cs[i * 3 + 2]? = some (.slice a fs[i].ps.length k) ∧ WrS 40 2 W Q (.slice a fs[i].ps.length k) fs[i].ps.length
theorem WrF.of {W : World} {Q B : Nat → Prop} {v : Value} {fs : List File} (h : OwnO tFileO Q 28 W v fs B) (hBQ : ∀ k, B k → ¬ Q k) : WrF W Q v fs := by
 rcases h with ⟨h1, h2⟩ | ⟨b, h1, h2, hl, ⟨rfl, h3⟩ | ⟨cap, us, sp, e1, e2, e3, e4, e5⟩⟩
 ·exact .inl h1
 ·exact .inl rfl
 ·refine .inr ⟨b, cap, _, e1, hBQ b h1, e4, fun i hi => ?_⟩
  have hsz : ∀ u ∈ us, u.cells.size = 3 := e3.mem (n := 3) (fun u x h => tFileO.sz h)
  obtain ⟨u, hu, hr⟩ := e3.get (List.getElem?_eq_getElem hi)
  obtain ⟨a, k, rfl, ho, _⟩ := tFileO.val hr
  refine ⟨a, k, ?_, WrS.ofP ho⟩
  have hlt : i < us.length := (List.getElem?_eq_some_iff.1 hu).1
  have hd := flat_drop i hsz
  have hu2 : us.drop i = Value.agg #[str fs[i].name, i64 fs[i].size, .slice a fs[i].ps.length k] :: us.drop (i + 1) := by
   rw [List.getElem?_eq_getElem hlt] at hu
   rw [List.drop_eq_getElem_cons hlt]
   simp at hu
   rw [hu]
  rw [hu2, flat_cons] at hd
  have hfl : (flat us).length = us.length * 3 := flat_length hsz
  rw [List.getElem?_append_left (by omega), ← List.getElem?_drop, ← hd]
  rfl
theorem WrF.put {W W2 : World} {Q : Nat → Prop} {v : Value} {fs : List File} {b : Nat} {ds ds' : List Value} (h : WrF W Q v fs) (hq : Q b) (hB : Blk W b 40 ds) (P : Go.Proofs.YtpfehnopghffjaaGreatDoor.Put W W2 b 40 ds') (hl : ds'.length = ds.length) : WrF W2 Q v fs := by
 rcases h with h | ⟨bF, c, cs, e, hn, hF, hel⟩
 ·exact .inl h
 ·refine .inr ⟨bF, c, cs, e, hn, hF.ext P.ext (fun e => hn (by have e : bF = b := e; rw [e]; exact hq)), fun i hi => ?_⟩
  obtain ⟨a, k, h1, h2⟩ := hel i hi
  exact ⟨a, k, h1, h2.put hB P hl⟩
theorem WrF.ext0 {W W2 : World} {Q : Nat → Prop} {v : Value} {fs : List File} (h : WrF W Q v fs) (hx : Ext (fun _ => False) W W2) : WrF W2 Q v fs := by
 rcases h with h | ⟨bF, c, cs, e, hn, hF, hel⟩
 ·exact .inl h
 ·refine .inr ⟨bF, c, cs, e, hn, hF.ext hx (fun x => x), fun i hi => ?_⟩
  obtain ⟨a, k, h1, h2⟩ := hel i hi
  exact ⟨a, k, h1, h2.ext hx (fun _ _ x => x)⟩
theorem WrF.at {W : World} {Q : Nat → Prop} {a : Option Addr} {c : Nat} {fs : List File} (h : WrF W Q (.slice a fs.length c) fs) {i : Nat} (hi : i < fs.length) : ∃ b, a = some ⟨b, 0, none⟩ ∧ ∃ x k, W.cell? ⟨b, i * 3 + 2, none⟩ = some (.slice x fs[i].ps.length k) ∧ WrS 40 2 W Q (.slice x fs[i].ps.length k) fs[i].ps.length := by
 rcases h with h | ⟨bF, c', cs, e, hn, hF, hel⟩
 ·subst h; exact absurd hi (Nat.not_lt_zero _)
 ·cases e
  obtain ⟨x, k, h1, h2⟩ := hel i hi
  exact ⟨bF, rfl, x, k, (hF.cell _).trans h1, h2⟩
namespace files
end files
end Go.Proofs.YtpfehnopghffjaaGreatDoor
namespace Go.Proofs.YtpfehnopghffjaaGreatDoor
open Go tree
theorem change_eq (a b : Change) (w : World) : (Op.equalIn 10000 80 (.agg #[str a.key, str a.value, .bool a.gone]) (.agg #[str b.key, str b.value, .bool b.gone])).run Tryz.prog w = .ok (decide (a = b)) w := by
 have hf : Tryz.prog.underlying 80 = some (.struct (Tryz.prog.fieldsOf 80)) := by unfold Program.fieldsOf; rw [Tryz.underlying80]
 rw [run_equalIn_agg (P := Tryz.prog) w 9999 80 _ _ hf (by kernel_rfl)]
 have p0 : ∀ (c : Change), (part 9 #[str c.key, str c.value, .bool c.gone] 0).run Tryz.prog = fun w => .ok (str c.key) w := fun c => funext fun w => part_one (cs := [_, _, _]) Tryz.underlying9 rfl rfl w
 have p1 : ∀ (c : Change), (part 9 #[str c.key, str c.value, .bool c.gone] 1).run Tryz.prog = fun w => .ok (str c.value) w := fun c => funext fun w => part_one (cs := [_, _, _]) Tryz.underlying9 rfl rfl w
 have p3 : ∀ (c : Change), (part 4 #[str c.key, str c.value, .bool c.gone] 2).run Tryz.prog = fun w => .ok (.bool c.gone) w := fun c => funext fun w => part_one (cs := [_, _, _]) Tryz.underlying4 rfl rfl w
 have e0 : ∀ x y : Bs, (Op.equalIn 9999 9 (str x) (str y)).run Tryz.prog = fun w => .ok (decide (x = y)) w := fun x y => funext fun w => by
  have := run_equalIn_string (P := Tryz.prog) w 9998 9 (bs x) (bs y) Tryz.underlying9
  rw [bs_toList, bs_toList] at this
  rw [show str x = .string (bs x) from rfl, show str y = .string (bs y) from rfl, this]
  by_cases h : x = y <;> simp [h]
 have e3 : ∀ x y : Bool, (Op.equalIn 9999 4 (.bool x) (.bool y)).run Tryz.prog = fun w => .ok (x == y) w := fun x y => funext fun w => run_equalIn_bool' (P := Tryz.prog) w 9998 4 x y Tryz.underlying4
 unfold Program.fieldsOf
 rw [Tryz.underlying80]
 obtain ⟨ak, av, ag⟩ := a
 obtain ⟨bk, bv, bg⟩ := b
 have q0 := p0 ⟨ak, av, ag⟩; have q0' := p0 ⟨bk, bv, bg⟩
 have q1 := p1 ⟨ak, av, ag⟩; have q1' := p1 ⟨bk, bv, bg⟩
 have q3 := p3 ⟨ak, av, ag⟩; have q3' := p3 ⟨bk, bv, bg⟩
 simp only at q0 q0' q1 q1' q3 q3'
 simp only [Op.eqFields, Sem.run_bind, Sem.run_ite, Sem.run_pure, q0, q0', q1, q1', q3, q3', e0, e3, Result.andThen_ok, Change.mk.injEq]
 by_cases h0 : ak = bk <;> by_cases h1 : av = bv <;> cases ag <;> cases bg <;> simp [h0, h1]
end Go.Proofs.YtpfehnopghffjaaGreatDoor
namespace Go.Proofs.YtpfehnopghffjaaGreatDoor
open Go
open room files
attribute [local irreducible] mountF turnF formatF
def WrA (W : World) (Q : Nat → Prop) (v : Value) (zs : List disk.Act) : Prop := zs = [] ∨ ∃ b c cs, v = .slice (some ⟨b, 0, none⟩) zs.length c ∧ ¬ Q b ∧ Blk W b 78 cs ∧ ∀ i (h : i < zs.length), ∃ a k, cs[i * 3 + 2]? = some (.slice a zs[i].put.data.length k) ∧ WrS 5 1 W Q (.slice a zs[i].put.data.length k) zs[i].put.data.length
theorem WrS.ofB {W : World} {Q : Nat → Prop} {v : Value} {l : Bs} (h : OwnO tByte (fun _ => False) 5 W v l Q) : WrS 5 1 W Q v l.length := by
 rcases h with ⟨h1, h2⟩ | ⟨b, h1, h2, hl, ⟨rfl, h3⟩ | ⟨cap, us, sp, e1, e2, e3, e4, e5⟩⟩
 ·exact .inl ⟨by rw [h1]; rfl, h2⟩
 ·exact .inl ⟨rfl, h3⟩
 ·refine .inr ⟨b, cap, _, e1, h1, e4, ?_⟩
  have hsz : ∀ u ∈ us, u.cells.size = 1 := e3.mem (n := 1) (fun u x h => tByte.sz h)
  rw [List.length_append, flat_length hsz, e3.length]
  omega
theorem WrA.of {W : World} {Q B : Nat → Prop} {v : Value} {zs : List disk.Act} (h : OwnO disk.tActO Q 78 W v zs B) (hBQ : ∀ k, B k → ¬ Q k) : WrA W Q v zs := by
 rcases h with ⟨h1, h2⟩ | ⟨b, h1, h2, hl, ⟨rfl, h3⟩ | ⟨cap, us, sp, e1, e2, e3, e4, e5⟩⟩
 ·exact .inl h1
 ·exact .inl rfl
 ·refine .inr ⟨b, cap, _, e1, hBQ b h1, e4, fun i hi => ?_⟩
  have hsz : ∀ u ∈ us, u.cells.size = 3 := e3.mem (n := 3) (fun u x h => disk.tActO.sz h)
  obtain ⟨u, hu, hr⟩ := e3.get (List.getElem?_eq_getElem hi)
  obtain ⟨d, rfl, ho, _⟩ := disk.tActO.val hr
  have ho : OwnO tByte (fun _ => False) 5 W d zs[i].put.data Q := ho
  obtain ⟨a, k, rfl, _⟩ := OwnO.val ho
  refine ⟨a, k, ?_, WrS.ofB ho⟩
  have hlt : i < us.length := (List.getElem?_eq_some_iff.1 hu).1
  have hd := flat_drop i hsz
  have hu2 : us.drop i = Value.agg #[.bool zs[i].flush, i64 zs[i].put.sector, .slice a zs[i].put.data.length k] :: us.drop (i + 1) := by
   rw [List.getElem?_eq_getElem hlt] at hu
   rw [List.drop_eq_getElem_cons hlt]
   simp at hu
   rw [hu]
  rw [hu2, flat_cons] at hd
  have hfl : (flat us).length = us.length * 3 := flat_length hsz
  rw [List.getElem?_append_left (by omega), ← List.getElem?_drop, ← hd]
  rfl
theorem WrA.put {W W2 : World} {Q : Nat → Prop} {v : Value} {zs : List disk.Act} {b : Nat} {ds ds' : List Value} (h : WrA W Q v zs) (hq : Q b) (hB : Blk W b 5 ds) (P : Go.Proofs.YtpfehnopghffjaaGreatDoor.Put W W2 b 5 ds') (hl : ds'.length = ds.length) : WrA W2 Q v zs := by
 rcases h with h | ⟨bF, c, cs, e, hn, hF, hel⟩
 ·exact .inl h
 ·refine .inr ⟨bF, c, cs, e, hn, hF.ext P.ext (fun e => hn (by have e : bF = b := e; rw [e]; exact hq)), fun i hi => ?_⟩
  obtain ⟨a, k, h1, h2⟩ := hel i hi
  exact ⟨a, k, h1, h2.put hB P hl⟩
theorem WrA.ext0 {W W2 : World} {Q : Nat → Prop} {v : Value} {zs : List disk.Act} (h : WrA W Q v zs) (hx : Ext (fun _ => False) W W2) : WrA W2 Q v zs := by
 rcases h with h | ⟨bF, c, cs, e, hn, hF, hel⟩
 ·exact .inl h
 ·refine .inr ⟨bF, c, cs, e, hn, hF.ext hx (fun x => x), fun i hi => ?_⟩
  obtain ⟨a, k, h1, h2⟩ := hel i hi
  exact ⟨a, k, h1, h2.ext hx (fun _ _ x => x)⟩
theorem WrA.at {W : World} {Q : Nat → Prop} {a : Option Addr} {c : Nat} {zs : List disk.Act} (h : WrA W Q (.slice a zs.length c) zs) {i : Nat} (hi : i < zs.length) : ∃ b, a = some ⟨b, 0, none⟩ ∧ ∃ x k, W.cell? ⟨b, i * 3 + 2, none⟩ = some (.slice x zs[i].put.data.length k) ∧ WrS 5 1 W Q (.slice x zs[i].put.data.length k) zs[i].put.data.length := by
 rcases h with h | ⟨bF, c', cs, e, hn, hF, hel⟩
 ·subst h; exact absurd hi (Nat.not_lt_zero _)
 ·cases e
  obtain ⟨x, k, h1, h2⟩ := hel i hi
  exact ⟨bF, rfl, x, k, (hF.cell _).trans h1, h2⟩
theorem ActsT_fn {w : World} {v u : Value} {a : List disk.Act} (ha : (Sl disk.tAct).rep All w v a) (hb : (Sl disk.tAct).rep All w u a) : Fn Tryz.prog 34 [v, u] w (fun r w2 => r = .bool true ∧ Ext (fun _ => False) w w2) := by
 obtain ⟨x2, y2, rfl, _⟩ := Sl.val ha
 obtain ⟨x4, y4, rfl, _⟩ := Sl.val hb
 have hl1 := Sl.lim ha
 simp only [Lim] at hl1
 refine Fn.enter (fun w => Tryz.call34 _ w) Tryz.func34 rfl ?_
 refine .seq (.region ?_)
 refine .p rfl rfl (.as rfl) (.nil (.code (.seq (.seq (.keep [(0, _), (1, _)] ⟨rfl, rfl, trivial⟩ (.region ?_))))))
 refine .p rfl rfl (.mv rfl) (.p rfl rfl (.len rfl rfl) (.p rfl rfl (.mv rfl) (.p rfl rfl (.len rfl rfl) (.p rfl rfl (.no (.ne rfl rfl) (fun h => h rfl)) (.nil (.code (.keep [(10, _), (0, _), (1, _)] ⟨rfl, rfl, rfl, trivial⟩ (.condF rfl (.skip (.code (.seq (.seq (.keep [(0, _), (1, _)] ⟨rfl, rfl, trivial⟩ (.region ?_))))))))))))))
 refine .p rfl rfl (.as rfl) (.nil (.code (.block ?_)))
 refine .loop (S := Nat) (fun s => [(0, .slice x2 a.length y2), (1, .slice x4 a.length y4), (5, i64 s)]) (fun s => w) (fun s => s ≤ a.length) (fun s => a.length - s) 0 ⟨rfl, rfl, rfl, trivial⟩ rfl (Nat.zero_le _) ?_
 rintro i J hi' again
 refine .seq (.seq (.region ?_))
 refine .p rfl rfl (.mv rfl) (.p rfl rfl (.mv rfl) (.p rfl rfl (.len rfl rfl) (.p rfl rfl (.lt rfl rfl) (.nil (.code (.keep [(14, _), (0, _), (1, _), (5, _)] ⟨rfl, rfl, rfl, rfl, trivial⟩ ?_))))))
 refine .condD rfl (fun c14 => ?_) (fun c14 => ?_)
 ·have hil : i < a.length := by omega
  obtain ⟨b1, o1, q1, ue, e, _, hcs, hre⟩ := Sl.at ha (List.getElem?_eq_getElem hil)
  cases e
  obtain ⟨ud, rfl, hudl, hsl⟩ := disk.tAct.val hre
  obtain ⟨adl, capd, rfl, _⟩ := Sl.val hudl
  obtain ⟨b2, o2, q2, ue2, e2, _, hcm, hrm⟩ := Sl.at hb (List.getElem?_eq_getElem hil)
  cases e2
  obtain ⟨um, rfl, hudm, hsm⟩ := disk.tAct.val hrm
  obtain ⟨adm, capdm, rfl, _⟩ := Sl.val hudm
  refine .skip (.code (.seq (.block (.seq (.keep [(0, _), (1, _), (5, _)] ⟨rfl, rfl, rfl, trivial⟩ (.draws (by kernel_rfl) (by kernel_rfl) ?_))))))
  refine .p rfl rfl (.mv rfl) (.p rfl rfl (.mv rfl) (.p rfl rfl (.indexAddr (s := 3) rfl rfl rfl rfl (by omega)) (.p rfl rfl (.fieldAddr rfl rfl rfl rfl) (.p rfl rfl (.load rfl rfl rfl (hcs 0 _ rfl)) (.p rfl rfl (.mv rfl) (.p rfl rfl (.mv rfl) (.p rfl rfl (.indexAddr (s := 3) rfl rfl rfl rfl (by omega)) (.p rfl rfl (.fieldAddr rfl rfl rfl rfl) (.p rfl rfl (.load rfl rfl rfl (hcm 0 _ rfl)) (.p rfl rfl (.cast (.neB rfl rfl rfl) (show _ = Value.bool false by simp)) (.p rfl rfl (.mv rfl) (.p rfl rfl (.mv rfl) (.p rfl rfl (.mv rfl) ?_)))))))))))))
  refine .p rfl rfl (.indexAddr (s := 3) rfl rfl rfl rfl (by omega)) (.p rfl rfl (.fieldAddr rfl rfl rfl rfl) (.p rfl rfl (.fieldAddr rfl rfl rfl rfl) (.p rfl rfl (.load rfl rfl rfl (hcs 1 _ rfl)) (.p rfl rfl (.mv rfl) (.p rfl rfl (.mv rfl) (.p rfl rfl (.indexAddr (s := 3) rfl rfl rfl rfl (by omega)) (.p rfl rfl (.fieldAddr rfl rfl rfl rfl) (.p rfl rfl (.fieldAddr rfl rfl rfl rfl) (.p rfl rfl (.load rfl rfl rfl (hcm 1 _ rfl)) (.p rfl rfl (.no (.ne rfl rfl) (fun h => h rfl)) (.p rfl rfl (.pickF rfl rfl) (.p rfl rfl (.mv rfl) (.p rfl rfl (.mv rfl) ?_)))))))))))))
  refine .p rfl rfl (.mv rfl) (.p rfl rfl (.indexAddr (s := 3) rfl rfl rfl rfl (by omega)) (.p rfl rfl (.fieldAddr rfl rfl rfl rfl) (.p rfl rfl (.fieldAddr rfl rfl rfl rfl) (.p rfl rfl (.load rfl rfl rfl (hcs 2 _ rfl)) (.p rfl rfl (.bytesStr rfl hudl rfl rfl rfl) (.p rfl rfl (.mv rfl) (.p rfl rfl (.mv rfl) (.p rfl rfl (.indexAddr (s := 3) rfl rfl rfl rfl (by omega)) (.p rfl rfl (.fieldAddr rfl rfl rfl rfl) (.p rfl rfl (.fieldAddr rfl rfl rfl rfl) (.p rfl rfl (.load rfl rfl rfl (hcm 2 _ rfl)) (.p rfl rfl (.bytesStr rfl hudm rfl rfl rfl) (.p rfl rfl (.no (.neS rfl rfl) (fun h => h rfl)) ?_)))))))))))))
  refine .p rfl rfl (.pickF rfl rfl) (.nil (.code (.keep [(59, _), (0, _), (1, _), (5, _)] ⟨rfl, rfl, rfl, rfl, trivial⟩ (.condF rfl (.skip (.blk (.code (.keep [(0, _), (1, _), (5, _)] ⟨rfl, rfl, rfl, trivial⟩ (.region ?_)))))))))
  refine .p rfl rfl (.mv rfl) (.p rfl rfl (.add rfl rfl (by omega)) (.p rfl rfl (.as rfl) (.nil ?_)))
  exact (again (i + 1) (by show i + 1 ≤ _; omega) (by show _ - (i + 1) < _ - i; omega)).of ⟨rfl, rfl, rfl, trivial⟩
 ·refine .exit rfl (.code (.seq (.keep [] trivial (.region ?_))))
  refine .p rfl rfl (.as rfl) (.nil (.code ?_))
  refine .ret _ rfl ?_
  exact ⟨rfl, .refl _⟩
theorem FilesTurns_fn {w : World} {v vl : Value} {d : Disk} {l : List Change} {count : Int} (hn : -9223372036854775808 ≤ count ∧ count ≤ 9223372036854775807) (h : disk.tDisk.rep All w v d) (hl : (Sl tree.tChange).rep All w vl l) (hg : GOK w) : Fn Tryz.prog 5 [i64 count, v, vl] w (fun r w2 => r = .bool true ∧ Ext (fun _ => False) w w2) := by
 have R0 := disk.tDisk.mono h (P' := fun k => k < w.heap.size) (fun k _ h => h)
 have Rl := (Sl tree.tChange).mono hl (P' := fun k => k < w.heap.size) (fun k _ h => h)
 obtain ⟨u1, q1, u2, q2, rfl⟩ := diskShape h
 obtain ⟨al, kl, rfl, _⟩ := Sl.val hl
 refine Fn.enter (fun w => Tryz.call5 _ w) Tryz.func5 rfl ?_
 refine .seq (.region ?_)
 refine .v rfl rfl (.box rfl) ?_
 rintro _ w4 ⟨rfl, N4⟩
 have B4 := N4.blk
 have X4 := N4.ext
 have z4 := N4.size
 refine .p rfl rfl (.as rfl) (.nil (.code (.seq (.seq (.keep [(4, _), (0, _), (2, _)] ⟨rfl, rfl, rfl, trivial⟩ ?_)))))
 refine .meet (S := Bool × World) (fun s => [(0, i64 count), (2, .slice al l.length kl), (4, .pointer (some ⟨w.heap.size, 0, none⟩)), (37, .bool s.1)]) (fun s => s.2) (fun s => Ext (fun _ => False) w4 s.2 ∧ (s.1 = false → largeL d = false ∧ heavyL l = false)) ?_ ?_
 ·rintro ⟨q, wm⟩ ⟨Xm, hq⟩
  simp only at Xm hq
  have zm := Xm.size
  change A _ [(0, i64 count), (2, .slice al l.length kl), (4, .pointer (some ⟨w.heap.size, 0, none⟩)), (37, .bool q)] _ wm
  refine .code ?_
  refine .cond rfl (fun c37 => ?_) (fun c37 => ?_)
  ·refine .seq (.keep [] trivial (.region ?_))
   refine .p rfl rfl (.as rfl) (.nil (.code ?_))
   refine .ret _ rfl ?_
   first
    | exact ⟨rfl, (Ext.then (S := Q) (by repeat (first | exact Ext.refl _ | assumption | refine Ext.trans (by assumption) ?_)) hX (fun k h _ => by have h := hQ k h; omega)).trans X147⟩
    | exact ⟨rfl, (by repeat (first | exact Ext.refl _ | assumption | refine Ext.trans (by assumption) ?_))⟩
  ·obtain ⟨hlg, hhv⟩ := hq c37
   have hl200 := (heavyL_not hhv).1
   refine .skip (.code (.seq (.keep [(0, _), (2, _), (4, _)] ⟨rfl, rfl, rfl, trivial⟩ (.region ?_))))
   refine .p rfl rfl (.loadA (n := 3) rfl rfl rfl rfl rfl (B4.ext (S := fun _ => False) (by repeat (first | exact Ext.refl _ | assumption | refine Ext.trans (by assumption) ?_)) (fun x => x)).cells) ?_
   refine .call (first := []) (captured := []) rfl rfl rfl rfl (refTwin_fn (disk.tDisk.ext0 h (by repeat (first | exact Ext.refl _ | assumption | refine Ext.trans (by assumption) ?_))) (by have := (largeL_not hlg).2.1; omega)) ?_
   rintro r39 w39 ⟨D39, X39⟩
   have z39 := X39.size
   obtain ⟨x1, y1, x2, y2, rfl⟩ := D39.val
   have R39 := disk.tDisk.mono D39.rep (P' := fun k => k < w39.heap.size) (fun k _ h => h)
   refine .v rfl rfl (.alloc rfl rfl) ?_
   rintro _ wn7 ⟨rfl, N7⟩
   refine .s rfl (.storeAll (n := 3) rfl rfl rfl rfl rfl N7.blk rfl) ?_
   intro w7 P7
   have Y7 := N7.ext.then P7.ext (by rintro k rfl _; exact Nat.le_refl _)
   have zy7 := Y7.size
   have B7 := P7.blk
   clear P7 N7
   have lb7 := B7.lt
   refine .nil (.code (.seq (.keep [(7, _), (0, _), (2, _), (4, _)] ⟨rfl, rfl, rfl, rfl, trivial⟩ (.region ?_))))
   refine .p rfl rfl (.mv rfl) (.v rfl rfl (.appendLo (t := tree.tChange) (Q := fun k => k < w7.heap.size) (eb := 40) rfl (OwnO.nil (B := fun k => w7.heap.size ≤ k)) (fun k hk => hk) rfl (Sl.holds ((Sl tree.tChange).mono ((Sl tree.tChange).ext0 Rl (by repeat (first | exact Ext.refl _ | assumption | refine Ext.trans (by assumption) ?_))) (P' := fun k => k < w7.heap.size) (fun k h _ => by have h : k < w.heap.size := h; omega)) (fun _ _ h => h)) rfl rfl rfl rfl rfl rfl rfl (by simp; omega) (by simp [Lim]; omega) (fun k h _ hb => by have h : k < w7.heap.size := h; have hb : w7.heap.size ≤ k := hb; omega)) ?_)
   rintro v41 w41 ⟨O41, A41⟩
   rw [List.nil_append] at O41
   have X41 : Ext (fun _ => False) w7 w41 := (Ext.refl _).then A41 (fun k h _ => h)
   clear A41
   have z41 := X41.size
   obtain ⟨a41, k41, rfl, _⟩ := OwnO.val O41
   have R41 := OwnO.rep (R := fun k => k < w41.heap.size) O41 (fun k h hl => hl) (fun k h hl => hl)
   refine .p rfl rfl (.as rfl) (.nil (.code (.seq (.keep [(8, _), (7, _), (0, _), (2, _), (4, _)] ⟨rfl, rfl, rfl, rfl, rfl, trivial⟩ (.region ?_)))))
   refine .p rfl rfl (.mv rfl) (.call (first := []) (captured := []) rfl rfl rfl rfl (Format_fn (n := count) (hg.ext0 (by repeat (first | exact Ext.refl _ | assumption | refine Ext.trans (by assumption) ?_))) hn.2) ?_)
   rintro _ w44 ⟨v44, rfl, R44, X44⟩
   have z44 := X44.size
   obtain ⟨x44, y44, p44, q44, rfl⟩ := diskShape R44
   refine .p rfl rfl (.mv rfl) (.p rfl rfl (.extract rfl rfl) (.p rfl rfl (.extract rfl rfl) (.v rfl rfl (.alloc rfl rfl) ?_)))
   rintro _ wn9 ⟨rfl, N9⟩
   refine .s rfl (.storeAll (n := 3) rfl rfl rfl rfl rfl N9.blk rfl) ?_
   intro w9 P9
   have Y9 := N9.ext.then P9.ext (by rintro k rfl _; exact Nat.le_refl _)
   have zy9 := Y9.size
   have B9 := P9.blk
   clear P9 N9
   refine .p rfl rfl (.as rfl) (.nil (.code (.seq (.keep [(10, _), (9, _), (8, _), (7, _), (0, _), (2, _), (4, _)] ⟨rfl, rfl, rfl, rfl, rfl, rfl, rfl, trivial⟩ (.region ?_)))))
   refine .p rfl rfl (.mv rfl) (.call (first := []) (captured := []) rfl rfl rfl rfl (RefFormat_fn (n := count)) ?_)
   rintro _ w49 ⟨v49, rfl, R49, X49⟩
   have z49 := X49.size
   obtain ⟨x49, y49, p49, q49, rfl⟩ := diskShape R49
   refine .p rfl rfl (.mv rfl) (.p rfl rfl (.extract rfl rfl) (.p rfl rfl (.extract rfl rfl) (.v rfl rfl (.alloc rfl rfl) ?_)))
   rintro _ wn11 ⟨rfl, N11⟩
   refine .s rfl (.storeAll (n := 3) rfl rfl rfl rfl rfl N11.blk rfl) ?_
   intro w11 P11
   have Y11 := N11.ext.then P11.ext (by rintro k rfl _; exact Nat.le_refl _)
   have zy11 := Y11.size
   have B11 := P11.blk
   clear P11 N11
   refine .p rfl rfl (.as rfl) (.nil (.code (.seq (.keep [(12, _), (11, _), (10, _), (9, _), (8, _), (7, _), (2, _), (4, _)] ⟨rfl, rfl, rfl, rfl, rfl, rfl, rfl, rfl, trivial⟩ (.region ?_)))))
   refine .p rfl rfl (.loadA (n := 3) rfl rfl rfl rfl rfl (B7.ext (S := fun _ => False) (by repeat (first | exact Ext.refl _ | assumption | refine Ext.trans (by assumption) ?_)) (fun x => x)).cells) ?_
   refine .call (first := []) (captured := []) rfl rfl rfl rfl (Mount_fn (allOf (disk.tDisk.ext0 R39 (by repeat (first | exact Ext.refl _ | assumption | refine Ext.trans (by assumption) ?_)))) (hg.ext0 (by repeat (first | exact Ext.refl _ | assumption | refine Ext.trans (by assumption) ?_)))) ?_
   rintro _ w54 ⟨v54, rfl, R54, X54⟩
   have z54 := X54.size
   obtain ⟨x54, y54, rfl, _, _⟩ := tDir.val R54
   refine .p rfl rfl (.mv rfl) (.p rfl rfl (.extract rfl rfl) (.p rfl rfl (.extract rfl rfl) (.v rfl rfl (.alloc rfl rfl) ?_)))
   rintro _ wn13 ⟨rfl, N13⟩
   refine .s rfl (.storeAll (n := 2) rfl rfl rfl rfl rfl N13.blk rfl) ?_
   intro w13 P13
   have Y13 := N13.ext.then P13.ext (by rintro k rfl _; exact Nat.le_refl _)
   have zy13 := Y13.size
   have B13 := P13.blk
   clear P13 N13
   refine .p rfl rfl (.as rfl) (.nil (.code (.seq (.keep [(14, _), (13, _), (12, _), (11, _), (10, _), (9, _), (8, _), (7, _), (2, _), (4, _)] ⟨rfl, rfl, rfl, rfl, rfl, rfl, rfl, rfl, rfl, rfl, trivial⟩ (.region ?_)))))
   refine .p rfl rfl (.loadA (n := 3) rfl rfl rfl rfl rfl (B4.ext (S := fun _ => False) (by repeat (first | exact Ext.refl _ | assumption | refine Ext.trans (by assumption) ?_)) (fun x => x)).cells) ?_
   refine .call (first := []) (captured := []) rfl rfl rfl rfl (refMount_fn (disk.tDisk.ext0 h (by repeat (first | exact Ext.refl _ | assumption | refine Ext.trans (by assumption) ?_)))) ?_
   rintro _ w59 ⟨v59, rfl, R59, X59⟩
   have z59 := X59.size
   obtain ⟨x59, y59, rfl, _, _⟩ := tDir.val R59
   refine .p rfl rfl (.mv rfl) (.p rfl rfl (.extract rfl rfl) (.p rfl rfl (.extract rfl rfl) (.v rfl rfl (.alloc rfl rfl) ?_)))
   rintro _ wn15 ⟨rfl, N15⟩
   refine .s rfl (.storeAll (n := 2) rfl rfl rfl rfl rfl N15.blk rfl) ?_
   intro w15 P15
   have Y15 := N15.ext.then P15.ext (by rintro k rfl _; exact Nat.le_refl _)
   have zy15 := Y15.size
   have B15 := P15.blk
   clear P15 N15
   refine .p rfl rfl (.as rfl) (.nil (.code (.seq (.keep [(16, _), (15, _), (14, _), (13, _), (12, _), (11, _), (10, _), (9, _), (8, _), (7, _), (2, _), (4, _)] ⟨rfl, rfl, rfl, rfl, rfl, rfl, rfl, rfl, rfl, rfl, rfl, rfl, trivial⟩ (.region ?_)))))
   refine .p rfl rfl (.loadA (n := 3) rfl rfl rfl rfl rfl (B7.ext (S := fun _ => False) (by repeat (first | exact Ext.refl _ | assumption | refine Ext.trans (by assumption) ?_)) (fun x => x)).cells) ?_
   refine .p rfl rfl (.mv rfl) (.call (first := []) (captured := []) rfl rfl rfl rfl (Turn_fn (l := l) (allOf (disk.tDisk.ext0 R39 (by repeat (first | exact Ext.refl _ | assumption | refine Ext.trans (by assumption) ?_)))) (allOf ((Sl tree.tChange).ext0 R41 (by repeat (first | exact Ext.refl _ | assumption | refine Ext.trans (by assumption) ?_)))) (hg.ext0 (by repeat (first | exact Ext.refl _ | assumption | refine Ext.trans (by assumption) ?_)))) ?_)
   rintro _ w65 ⟨v65, Q0, B0, rfl, O65, hQ0, hB0, X65⟩
   have z65 := X65.size
   have O65 := OwnO.mono O65 (Q' := fun k => Q0 k ∧ k < w65.heap.size) (B' := fun k => B0 k) (fun k h hl => ⟨h, hl⟩) (fun k h _ => h)
   obtain ⟨Q, hQe⟩ : ∃ Q : Nat → Prop, Q = fun k => Q0 k ∧ k < w65.heap.size := ⟨_, rfl⟩
   have hQ : ∀ k, Q k → w15.heap.size ≤ k ∧ k < w65.heap.size := fun k h => by rw [hQe] at h; exact ⟨(hQ0 k h.1).1, h.2⟩
   rw [← hQe] at O65
   have hWA := WrA.of O65 (fun k h1 h2 => by rw [hQe] at h2; exact (hQ0 k h2.1).2 h1)
   have R65 : (Sl disk.tAct).rep All w65 v65 (turnF d l).1 := Sl.imp (OwnO.rep O65 (R := All) (fun _ _ _ => trivial) (fun _ _ _ => trivial)) (fun u x h => disk.tActO.weak h)
   obtain ⟨aZ, kZ, rfl, hkZ⟩ := OwnO.val O65
   have hlZ := OwnO.lim O65
   simp only [Lim] at hlZ
   refine .p rfl rfl (.mv rfl) (.p rfl rfl (.extract rfl rfl) (.p rfl rfl (.extract rfl rfl) (.p rfl rfl (.as rfl) (.p rfl rfl (.as rfl) (.nil (.code (.seq (.keep [(18, _), (17, _), (16, _), (15, _), (14, _), (13, _), (12, _), (11, _), (10, _), (9, _), (8, _), (7, _), (2, _), (4, _)] ⟨rfl, rfl, rfl, rfl, rfl, rfl, rfl, rfl, rfl, rfl, rfl, rfl, rfl, rfl, trivial⟩ (.region ?_)))))))))
   refine .p rfl rfl (.loadA (n := 3) rfl rfl rfl rfl rfl (B4.ext (S := fun _ => False) (by repeat (first | exact Ext.refl _ | assumption | refine Ext.trans (by assumption) ?_)) (fun x => x)).cells) ?_
   refine .p rfl rfl (.mv rfl) (.call (first := []) (captured := []) rfl rfl rfl rfl (RefTurn_fn (l := l) (disk.tDisk.ext0 h (by repeat (first | exact Ext.refl _ | assumption | refine Ext.trans (by assumption) ?_))) ((Sl tree.tChange).ext0 hl (by repeat (first | exact Ext.refl _ | assumption | refine Ext.trans (by assumption) ?_)))) ?_)
   rintro _ w71 ⟨v71, rfl, R71, X71⟩
   have z71 := X71.size
   obtain ⟨a71, k71, rfl, _⟩ := Sl.val R71
   refine .p rfl rfl (.mv rfl) (.p rfl rfl (.extract rfl rfl) (.p rfl rfl (.extract rfl rfl) (.p rfl rfl (.as rfl) (.p rfl rfl (.as rfl) (.nil (.code (.seq (.seq (.keep [(20, _), (19, _), (18, _), (17, _), (16, _), (15, _), (14, _), (13, _), (12, _), (11, _), (10, _), (9, _), (8, _), (7, _), (2, _), (4, _)] ⟨rfl, rfl, rfl, rfl, rfl, rfl, rfl, rfl, rfl, rfl, rfl, rfl, rfl, rfl, rfl, rfl, trivial⟩ (.region ?_))))))))))
   refine .p rfl rfl (.mv rfl) (.p rfl rfl (.mv rfl) (.p rfl rfl (.no (.ne rfl rfl) (fun h => h rfl)) (.p rfl rfl (.mv rfl) (.p rfl rfl (.loadA (n := 3) rfl rfl rfl rfl rfl (B9.ext (S := fun _ => False) (by repeat (first | exact Ext.refl _ | assumption | refine Ext.trans (by assumption) ?_)) (fun x => x)).cells) ?_))))
   refine .p rfl rfl (.loadA (n := 3) rfl rfl rfl rfl rfl (B11.ext (S := fun _ => False) (by repeat (first | exact Ext.refl _ | assumption | refine Ext.trans (by assumption) ?_)) (fun x => x)).cells) ?_
   refine .call (first := []) (captured := []) rfl rfl rfl rfl (refSameT_fn (allOf (disk.tDisk.ext0 R44 (by repeat (first | exact Ext.refl _ | assumption | refine Ext.trans (by assumption) ?_)))) (allOf (disk.tDisk.ext0 R49 (by repeat (first | exact Ext.refl _ | assumption | refine Ext.trans (by assumption) ?_))))) ?_
   rintro _ w80 ⟨rfl, X80⟩
   have z80 := X80.size
   refine .p rfl rfl (.not rfl) (.p rfl rfl (.pickF rfl rfl) (.p rfl rfl (.mv rfl) (.p rfl rfl (.mv rfl) (.p rfl rfl (.mv rfl) (.p rfl rfl (.no (.ne rfl rfl) (fun h => h rfl)) (.p rfl rfl (.pickF rfl rfl) (.p rfl rfl (.mv rfl) (.p rfl rfl (.loadA (n := 2) rfl rfl rfl rfl rfl (B13.ext (S := fun _ => False) (by repeat (first | exact Ext.refl _ | assumption | refine Ext.trans (by assumption) ?_)) (fun x => x)).cells) ?_))))))))
   refine .p rfl rfl (.loadA (n := 2) rfl rfl rfl rfl rfl (B15.ext (S := fun _ => False) (by repeat (first | exact Ext.refl _ | assumption | refine Ext.trans (by assumption) ?_)) (fun x => x)).cells) ?_
   refine .call (first := []) (captured := []) rfl rfl rfl rfl (refSameDirT_fn (x := (mountF d).1) (allOf (tDir.ext0 R54 (by repeat (first | exact Ext.refl _ | assumption | refine Ext.trans (by assumption) ?_)))) (allOf (tDir.ext0 R59 (by repeat (first | exact Ext.refl _ | assumption | refine Ext.trans (by assumption) ?_))))) ?_
   rintro _ w91 ⟨rfl, X91⟩
   have z91 := X91.size
   refine .p rfl rfl (.not rfl) (.p rfl rfl (.pickF rfl rfl) (.p rfl rfl (.mv rfl) (.p rfl rfl (.mv rfl) (.p rfl rfl (.mv rfl) (.p rfl rfl (.no (.ne rfl rfl) (fun h => h rfl)) (.p rfl rfl (.pickF rfl rfl) (.p rfl rfl (.mv rfl) (.p rfl rfl (.mv rfl) (.p rfl rfl (.mv rfl) (.call (first := []) (captured := []) rfl rfl rfl rfl (ActsT_fn ((Sl disk.tAct).ext0 R65 (by repeat (first | exact Ext.refl _ | assumption | refine Ext.trans (by assumption) ?_))) ((Sl disk.tAct).ext0 R71 (by repeat (first | exact Ext.refl _ | assumption | refine Ext.trans (by assumption) ?_)))) ?_))))))))))
   rintro _ w102 ⟨rfl, X102⟩
   have z102 := X102.size
   refine .p rfl rfl (.not rfl) (.p rfl rfl (.pickF rfl rfl) (.nil (.code (.keep [(104, _), (17, _), (8, _), (7, _), (2, _), (4, _)] ⟨rfl, rfl, rfl, rfl, rfl, rfl, trivial⟩ (.condF rfl (.skip (.code (.seq (.seq (.keep [(17, _), (8, _), (7, _), (2, _), (4, _)] ⟨rfl, rfl, rfl, rfl, rfl, trivial⟩ (.region ?_)))))))))))
   refine .p rfl rfl (.as rfl) (.nil (.code (.block ?_)))
   refine .loop (S := Nat × World) (fun s => [(2, .slice al l.length kl), (4, .pointer (some ⟨w.heap.size, 0, none⟩)), (7, .pointer (some ⟨w39.heap.size, 0, none⟩)), (8, .slice a41 l.length k41), (17, .slice aZ (turnF d l).1.length kZ), (21, i64 s.1)]) (fun s => s.2) (fun s => s.1 ≤ (turnF d l).1.length ∧ WrA s.2 Q (.slice aZ (turnF d l).1.length kZ) (turnF d l).1 ∧ Ext Q w102 s.2) (fun s => (turnF d l).1.length - s.1) (0, w102) ⟨rfl, rfl, rfl, rfl, rfl, rfl, trivial⟩ rfl ⟨Nat.zero_le _, hWA.ext0 (by repeat (first | exact Ext.refl _ | assumption | refine Ext.trans (by assumption) ?_)), .refl _⟩ ?_
   rintro ⟨i, wi⟩ J ⟨hi', hWi, hX⟩ again
   simp only at hi' hWi hX
   have zi := hX.size
   change G _ [(2, .slice al l.length kl), (4, .pointer (some ⟨w.heap.size, 0, none⟩)), (7, .pointer (some ⟨w39.heap.size, 0, none⟩)), (8, .slice a41 l.length k41), (17, .slice aZ (turnF d l).1.length kZ), (21, i64 i)] _ _ wi
   refine .seq (.seq (.region ?_))
   refine .p rfl rfl (.mv rfl) (.p rfl rfl (.mv rfl) (.p rfl rfl (.len rfl rfl) (.p rfl rfl (.lt rfl rfl) (.nil (.code (.keep [(108, _), (2, _), (4, _), (7, _), (8, _), (17, _), (21, _)] ⟨rfl, rfl, rfl, rfl, rfl, rfl, rfl, trivial⟩ ?_))))))
   refine .condD rfl (fun c108 => ?_) (fun c108 => ?_)
   ·have hi : i < (turnF d l).1.length := by omega
    refine .skip (.code (.seq (.block (.seq (.keep [(2, _), (4, _), (7, _), (8, _), (17, _), (21, _)] ⟨rfl, rfl, rfl, rfl, rfl, rfl, trivial⟩ (.region ?_))))))
    refine .p rfl rfl (.as rfl) (.nil (.code (.block ?_)))
    refine .loop (S := Nat × World) (fun s => [(2, .slice al l.length kl), (4, .pointer (some ⟨w.heap.size, 0, none⟩)), (7, .pointer (some ⟨w39.heap.size, 0, none⟩)), (8, .slice a41 l.length k41), (17, .slice aZ (turnF d l).1.length kZ), (21, i64 (i : Nat)), (22, i64 s.1)]) (fun s => s.2) (fun s => s.1 ≤ (turnF d l).1[i].put.data.length ∧ WrA s.2 Q (.slice aZ (turnF d l).1.length kZ) (turnF d l).1 ∧ Ext Q w102 s.2) (fun s => (turnF d l).1[i].put.data.length - s.1) (0, wi) ⟨rfl, rfl, rfl, rfl, rfl, rfl, rfl, trivial⟩ rfl ⟨Nat.zero_le _, hWi, hX⟩ ?_
    rintro ⟨j, wj⟩ J2 ⟨hj', hWj, hY⟩ again2
    simp only at hj' hWj hY
    have zj := hY.size
    change G _ [(2, .slice al l.length kl), (4, .pointer (some ⟨w.heap.size, 0, none⟩)), (7, .pointer (some ⟨w39.heap.size, 0, none⟩)), (8, .slice a41 l.length k41), (17, .slice aZ (turnF d l).1.length kZ), (21, i64 (i : Nat)), (22, i64 j)] _ _ wj
    refine .seq (.seq (.region ?_))
    refine .p rfl rfl (.mv rfl) (.p rfl rfl (.mv rfl) (.p rfl rfl (.mv rfl) ?_))
    obtain ⟨bF, eF, xF, kX, hce, hWS⟩ := hWj.at hi
    cases eF
    refine .p rfl rfl (.indexAddr (s := 3) rfl rfl rfl rfl (by omega)) (.p rfl rfl (.fieldAddr rfl rfl rfl rfl) (.p rfl rfl (.fieldAddr rfl rfl rfl rfl) (.p rfl rfl (.load rfl rfl rfl (by have := hce; simpa using this)) ?_)))
    refine .p rfl rfl (.len rfl rfl) (.p rfl rfl (.lt rfl rfl) (.nil (.code (.keep [(119, _), (2, _), (4, _), (7, _), (8, _), (17, _), (21, _), (22, _)] ⟨rfl, rfl, rfl, rfl, rfl, rfl, rfl, rfl, trivial⟩ ?_))))
    refine .condD rfl (fun c119 => ?_) (fun c119 => ?_)
    ·have hj : j < (turnF d l).1[i].put.data.length := by omega
     obtain ⟨p, dsp, rfl, hQp, hBp, hpl⟩ := hWS.blk hj
     have hdl : (turnF d l).1[i].put.data.length < Lim := by
      obtain ⟨_, _, _, _, _, _, _, hrA⟩ := Sl.at R65 (List.getElem?_eq_getElem hi)
      obtain ⟨_, _, hbA, _⟩ := disk.tAct.val hrA
      exact Sl.lim hbA
     simp only [Lim] at hdl
     refine .skip (.code (.seq (.block (.keep [(2, _), (4, _), (7, _), (8, _), (17, _), (21, _), (22, _)] ⟨rfl, rfl, rfl, rfl, rfl, rfl, rfl, trivial⟩ (.region ?_)))))
     refine .p rfl rfl (.mv rfl) (.p rfl rfl (.mv rfl) (.p rfl rfl (.indexAddr (s := 3) rfl rfl rfl rfl (by omega)) (.p rfl rfl (.fieldAddr rfl rfl rfl rfl) (.p rfl rfl (.fieldAddr rfl rfl rfl rfl) (.p rfl rfl (.load rfl rfl rfl (by have := hce; simpa using this)) ?_)))))
     refine .p rfl rfl (.mv rfl) (.p rfl rfl (.cast (.indexAddr1 rfl rfl rfl rfl (by omega)) (show _ = Value.pointer (some ⟨p, j, none⟩) by simp)) (.s rfl (.store rfl rfl rfl rfl rfl hBp (by omega)) ?_))
     intro wp Pp
     refine .nil (.blk (.code (.keep [(2, _), (4, _), (7, _), (8, _), (17, _), (21, _), (22, _)] ⟨rfl, rfl, rfl, rfl, rfl, rfl, rfl, trivial⟩ (.region ?_))))
     refine .p rfl rfl (.mv rfl) (.p rfl rfl (.add rfl rfl (by omega)) (.p rfl rfl (.as rfl) (.nil ?_)))
     exact (again2 (j + 1, wp) ⟨by show j + 1 ≤ _; omega, hWj.put hQp hBp Pp (by simp), hY.trans (Pp.ext.mono (by rintro k _ rfl; exact hQp))⟩ (by show _ - (j + 1) < _ - j; omega)).of ⟨rfl, rfl, rfl, rfl, rfl, rfl, rfl, trivial⟩
    ·refine .exit rfl (.blk (.code (.keep [(2, _), (4, _), (7, _), (8, _), (17, _), (21, _)] ⟨rfl, rfl, rfl, rfl, rfl, rfl, trivial⟩ (.region ?_))))
     refine .p rfl rfl (.mv rfl) (.p rfl rfl (.add rfl rfl (by omega)) (.p rfl rfl (.as rfl) (.nil ?_)))
     exact (again (i + 1, wj) ⟨by show i + 1 ≤ _; omega, hWj, hY⟩ (by show _ - (i + 1) < _ - i; omega)).of ⟨rfl, rfl, rfl, rfl, rfl, rfl, trivial⟩
   ·refine .exit rfl (.code (.seq (.seq (.keep [(2, _), (4, _), (7, _), (8, _)] ⟨rfl, rfl, rfl, rfl, trivial⟩ (.region ?_)))))
    refine .p rfl rfl (.as rfl) (.nil (.code (.block ?_)))
    refine .loop (S := Nat) (fun s => [(2, .slice al l.length kl), (4, .pointer (some ⟨w.heap.size, 0, none⟩)), (7, .pointer (some ⟨w39.heap.size, 0, none⟩)), (8, .slice a41 l.length k41), (23, i64 s)]) (fun s => wi) (fun s => s ≤ l.length) (fun s => l.length - s) 0 ⟨rfl, rfl, rfl, rfl, rfl, trivial⟩ rfl (Nat.zero_le _) ?_
    intro i J hi' again
    refine .seq (.seq (.region ?_))
    refine .p rfl rfl (.mv rfl) (.p rfl rfl (.mv rfl) (.p rfl rfl (.len rfl rfl) (.p rfl rfl (.lt rfl rfl) (.nil (.code (.keep [(133, _), (2, _), (4, _), (7, _), (8, _), (23, _)] ⟨rfl, rfl, rfl, rfl, rfl, rfl, trivial⟩ ?_))))))
    refine .condD rfl (fun c133 => ?_) (fun c133 => ?_)
    ·have hi : i < l.length := by omega
     obtain ⟨b1, o1, q1', ue1, e1, hb1, hc1, hr1⟩ := Sl.at ((Sl tree.tChange).ext ((Sl tree.tChange).ext0 R41 (by repeat (first | exact Ext.refl _ | assumption | refine Ext.trans (by assumption) ?_))) hX (fun k hk _ e => by have hk : k < w41.heap.size := hk; have := hQ k e; omega)) (List.getElem?_eq_getElem hi)
     obtain ⟨rfl, hk1, hv1⟩ := tree.tChange.val hr1
     simp only [Value.slice.injEq] at e1
     obtain ⟨rfl, -, -⟩ := e1
     obtain ⟨b2, o2, q2', ue2, e2, hb2, hc2, hr2⟩ := Sl.at ((Sl tree.tChange).ext ((Sl tree.tChange).ext0 Rl (by repeat (first | exact Ext.refl _ | assumption | refine Ext.trans (by assumption) ?_))) hX (fun k hk _ e => by have hk : k < w.heap.size := hk; have := hQ k e; omega)) (List.getElem?_eq_getElem hi)
     obtain ⟨rfl, hk2, hv2⟩ := tree.tChange.val hr2
     simp only [Value.slice.injEq] at e2
     obtain ⟨rfl, -, -⟩ := e2
     refine .skip (.code (.seq (.block (.seq (.keep [(2, _), (4, _), (7, _), (8, _), (23, _)] ⟨rfl, rfl, rfl, rfl, rfl, trivial⟩ (.draws (by kernel_rfl) (by kernel_rfl) ?_))))))
     refine .p rfl rfl (.mv rfl) (.p rfl rfl (.mv rfl) (.p rfl rfl (.indexAddr (s := 3) rfl rfl rfl rfl (by omega)) (.p rfl rfl (.loadA (n := 3) rfl rfl rfl rfl rfl hc1) (.p rfl rfl (.mv rfl) (.p rfl rfl (.mv rfl) (.p rfl rfl (.indexAddr (s := 3) rfl rfl rfl rfl (by omega)) (.p rfl rfl (.loadA (n := 3) rfl rfl rfl rfl rfl hc2) (.p rfl rfl (.cast (.neA (xs := [_, _, _]) (ys := [_, _, _]) rfl rfl (by kernel_rfl) (change_eq l[i] l[i])) (show _ = Value.bool false by simp)) (.nil (.code (.keep [(144, _), (2, _), (4, _), (7, _), (8, _), (23, _)] ⟨rfl, rfl, rfl, rfl, rfl, rfl, trivial⟩ (.condF rfl (.skip (.blk (.code (.keep [(2, _), (4, _), (7, _), (8, _), (23, _)] ⟨rfl, rfl, rfl, rfl, rfl, trivial⟩ (.region ?_)))))))))))))))))
     refine .p rfl rfl (.mv rfl) (.p rfl rfl (.add rfl rfl (by omega)) (.p rfl rfl (.as rfl) (.nil ?_)))
     exact (again (i + 1) (by show i + 1 ≤ _; omega) (by show _ - (i + 1) < _ - i; omega)).of ⟨rfl, rfl, rfl, rfl, rfl, trivial⟩
    ·refine .exit rfl (.code (.seq (.keep [(4, _), (7, _)] ⟨rfl, rfl, trivial⟩ (.region ?_))))
     refine .p rfl rfl (.loadA (n := 3) rfl rfl rfl rfl rfl (((B7.ext (S := fun _ => False) (by repeat (first | exact Ext.refl _ | assumption | refine Ext.trans (by assumption) ?_)) (fun x => x)).ext hX (fun h => by have h := hQ _ h; omega)).cells)) ?_
     refine .p rfl rfl (.loadA (n := 3) rfl rfl rfl rfl rfl (((B4.ext (S := fun _ => False) (by repeat (first | exact Ext.refl _ | assumption | refine Ext.trans (by assumption) ?_)) (fun x => x)).ext hX (fun h => by have h := hQ _ h; omega)).cells)) ?_
     refine .call (first := []) (captured := []) rfl rfl rfl rfl (refSameT_fn (allOf (disk.tDisk.ext (disk.tDisk.ext0 R39 (by repeat (first | exact Ext.refl _ | assumption | refine Ext.trans (by assumption) ?_))) hX (fun k hk _ e => by have hk : k < w39.heap.size := hk; have := hQ k e; omega))) (allOf (disk.tDisk.ext (disk.tDisk.ext0 R0 (by repeat (first | exact Ext.refl _ | assumption | refine Ext.trans (by assumption) ?_))) hX (fun k hk _ e => by have hk : k < w.heap.size := hk; have := hQ k e; omega)))) ?_
     rintro _ w147 ⟨rfl, X147⟩
     have z147 := X147.size
     refine .p rfl rfl (.as rfl) (.nil (.code ?_))
     refine .ret _ rfl ?_
     first
      | exact ⟨rfl, (Ext.then (S := Q) (by repeat (first | exact Ext.refl _ | assumption | refine Ext.trans (by assumption) ?_)) hX (fun k h _ => by have h := hQ k h; omega)).trans X147⟩
      | exact ⟨rfl, (by repeat (first | exact Ext.refl _ | assumption | refine Ext.trans (by assumption) ?_))⟩
 ·intro meet
  refine .region (.p rfl rfl (.loadA (n := 3) rfl rfl rfl rfl rfl (B4.ext (S := fun _ => False) (by repeat (first | exact Ext.refl _ | assumption | refine Ext.trans (by assumption) ?_)) (fun x => x)).cells) ?_)
  refine .call (first := []) (captured := []) rfl rfl rfl rfl (filesLarge_fn (disk.tDisk.ext0 h (by repeat (first | exact Ext.refl _ | assumption | refine Ext.trans (by assumption) ?_)))) ?_
  rintro _ w25 ⟨rfl, X25⟩
  have z25 := X25.size
  refine .p rfl rfl (.mv rfl) ?_
  refine .case 26 rfl (fun c26 => ?_) (fun c26 => ?_)
  ·refine .skip rfl rfl (.skip rfl rfl (.p rfl rfl (.pickT rfl rfl) (.p rfl rfl (.mv rfl) (.skip rfl rfl (.skip rfl rfl (.skip rfl rfl (.skip rfl rfl (.skip rfl rfl (.skip rfl rfl (.p rfl rfl (.pickT rfl rfl) (.nil ?_)))))))))))
   exact (meet (_, _) ⟨(by repeat (first | exact Ext.refl _ | assumption | refine Ext.trans (by assumption) ?_)), by intro hf; first | (cases hf; done) | exact ⟨by assumption, by assumption⟩⟩).of ⟨rfl, rfl, rfl, rfl, trivial⟩
  ·refine .p rfl rfl (.mv rfl) (.call (first := []) (captured := []) rfl rfl rfl rfl (heavy_fn (l := l) ((Sl tree.tChange).ext0 hl (by repeat (first | exact Ext.refl _ | assumption | refine Ext.trans (by assumption) ?_)))) ?_)
   rintro _ w28 ⟨rfl, X28⟩
   have z28 := X28.size
   refine .p rfl rfl (.pickF rfl rfl) (.p rfl rfl (.mv rfl) ?_)
   refine .case 30 rfl (fun c30 => ?_) (fun c30 => ?_)
   ·refine .skip rfl rfl (.skip rfl rfl (.skip rfl rfl (.skip rfl rfl (.skip rfl rfl (.skip rfl rfl (.p rfl rfl (.pickT rfl rfl) (.nil ?_)))))))
    exact (meet (_, _) ⟨(by repeat (first | exact Ext.refl _ | assumption | refine Ext.trans (by assumption) ?_)), by intro hf; first | (cases hf; done) | exact ⟨by assumption, by assumption⟩⟩).of ⟨rfl, rfl, rfl, rfl, trivial⟩
   ·refine .p rfl rfl (.mv rfl) (.p rfl rfl (.gt rfl rfl) (.p rfl rfl (.mv rfl) ?_))
    refine .caseD 33 rfl (fun c33 => ?_) (fun c33 => ?_)
    ·refine .p rfl rfl (.mv rfl) (.p rfl rfl (.le rfl rfl) (.p rfl rfl (.pickT rfl rfl) (.p rfl rfl (.pickF rfl rfl) (.nil ?_))))
     exact (meet (_, _) ⟨(by repeat (first | exact Ext.refl _ | assumption | refine Ext.trans (by assumption) ?_)), by intro hf; first | (cases hf; done) | exact ⟨by assumption, by assumption⟩⟩).of ⟨rfl, rfl, rfl, rfl, trivial⟩
    ·refine .skip rfl rfl (.skip rfl rfl (.p rfl rfl (.pickF rfl rfl) (.p rfl rfl (.pickF rfl rfl) (.nil ?_))))
     exact (meet (_, _) ⟨(by repeat (first | exact Ext.refl _ | assumption | refine Ext.trans (by assumption) ?_)), by intro hf; first | (cases hf; done) | exact ⟨by assumption, by assumption⟩⟩).of ⟨rfl, rfl, rfl, rfl, trivial⟩
end Go.Proofs.YtpfehnopghffjaaGreatDoor
namespace Go.Proofs.YtpfehnopghffjaaGreatDoor
open Go Go.ChangeShapes Go.WideShapes Go.ChangeAt Go.RowKit
theorem bulk_one {H : Type} (d : DataW H) : 1 ≤ Rows.uptoBulk d := by
 cases d with
 | lit l => cases l <;> simp [Rows.uptoBulk]
 | nil => simp [Rows.uptoBulk]
 | ptr d => simp [Rows.uptoBulk]
 | slice elems spare => simp [Rows.uptoBulk]
 | agg parts => simp [Rows.uptoBulk]
 | iface t d => simp [Rows.uptoBulk]
 | map entries => simp [Rows.uptoBulk]
 | held h => simp [Rows.uptoBulk]
theorem bulk_part {H : Type} {d : DataW H} : ∀ {l : List (DataW H)}, d ∈ l → Rows.uptoBulk d ≤ Rows.uptoBulkAll l
 | x :: r, h => by
  simp only [Rows.uptoBulkAll]
  rcases List.mem_cons.1 h with rfl | h
  ·omega
  ·have := bulk_part h; omega
theorem bulk_length {H : Type} : ∀ (l : List (DataW H)), l.length ≤ Rows.uptoBulkAll l
 | [] => by simp [Rows.uptoBulkAll]
 | x :: r => by
  have := bulk_one x
  have := bulk_length r
  simp only [Rows.uptoBulkAll, List.length_cons]
  omega
theorem bulk_small {H : Type} {d : DataW H} {ds : List (DataW H)} (hk : Rows.uptoSmall H ds = true) (hd : d ∈ ds) : Rows.uptoBulk d ≤ 1048576 := by
 have h : Rows.uptoBulkAll ds ≤ 1048576 := of_decide_eq_true hk
 have := bulk_part hd
 omega
theorem upto_slice {α : Type} {t : Ty α} {x : List α} {H : Type} {enc : TypeId × Value → H} {W : World} {T E : TypeId} {v : Value} {d : DataW H} {p : List MemPlace} {ds : List (DataW H)} (hk : Rows.uptoSmall H ds = true) (hd : d ∈ ds) (hT : Tryz.prog.underlying T = some (.slice E)) (h : DataW.Trod enc Tryz.prog W 0 (fun _ => true) true T v d p) (hr : (Sl t).rep All W v x) : x.length ≤ 1048576 := by
 obtain ⟨a, cap, rfl, _⟩ := Sl.val hr
 obtain ⟨fuel, hf⟩ := h
 have hb := bulk_small hk hd
 have hf' : DataW.trod enc Tryz.prog W 0 (fun _ => true) true fuel T [.slice a x.length cap] = some (d, p) := hf
 rcases DataW.trod_slice hT hf' with ⟨h1, h2⟩ | ⟨a', len, cap', elems, rest, n, _, h1, h2, _, hl, hm, hlen, _⟩
 ·simp only [List.cons.injEq, Value.slice.injEq] at h1
  omega
 ·simp only [List.cons.injEq, Value.slice.injEq] at h1
  simp only [Prod.mk.injEq] at h2
  obtain ⟨rfl, _⟩ := h2
  have := bulk_length (elems.map (·.1))
  simp only [Rows.uptoBulk, List.length_map] at hb this
  omega
end Go.Proofs.YtpfehnopghffjaaGreatDoor
