
/-
  What is asked of a table: is it one, its pages, its ends, what is found.
-/
import Derived.Test.YthkgadhamecnlaaTabOpen
import Derived.Test.YthkgadhamecnlaaTabSort
import Derived.Test.YthkgadhamecnlaaPFind
set_option linter.unusedVariables false
set_option linter.unusedSimpArgs false
set_option maxRecDepth 20000
namespace Go.Proofs.Ythkgadhamecnlaa
open Go page table
theorem gt_less (a b : Bs) : (!Op.bytesLess a b && !a == b) = Op.bytesLess b a := by
  rw [bytesLess_eq, bytesLess_eq]
  have n := cmpB_neg a b
  have z := cmpB_zero a b
  by_cases h : Lib.compareBytes a b < 0
  · rw [decide_eq_true h, decide_eq_false (by omega)]; rfl
  · rw [decide_eq_false h]
    by_cases h2 : a = b
    · have := z.2 h2
      rw [decide_eq_false (by omega), h2]; simp
    · have : ¬ Lib.compareBytes a b = 0 := fun e => h2 (z.1 e)
      rw [decide_eq_true (by omega)]; simpa using h2
theorem Ev.gtS {P : Program} {e : Env} {w : World} {x y : Operand} {T T' : TypeId} {a b : Bs} (hx : look e x = some (str a)) (hy : look e y = some (str b)) : Ev P e (.binOp .gtr T x y T') w (.bool (Op.bytesLess b a)) :=
  fun w' _ ρ hρ o ho => by
    have h1 : (bs a).toList = a := bs_toList a
    have h2 : (bs b).toList = b := bs_toList b
    simp [execOp, ho, hρ _ _ hx, hρ _ _ hy, eqGuard, binOp, Op.stringOp, h1, h2]
    exact gt_less a b
theorem Ev.geS {P : Program} {e : Env} {w : World} {x y : Operand} {T T' : TypeId} {a b : Bs} (hx : look e x = some (str a)) (hy : look e y = some (str b)) : Ev P e (.binOp .geq T x y T') w (.bool (!Op.bytesLess a b)) :=
  fun w' _ ρ hρ o ho => by
    have h1 : (bs a).toList = a := bs_toList a
    have h2 : (bs b).toList = b := bs_toList b
    simp [execOp, ho, hρ _ _ hx, hρ _ _ hy, eqGuard, binOp, Op.stringOp, h1, h2]
theorem open_fn2 {w : World} {v : Value} {b : Bs} (h : tBytes.rep All w v b) : Fn Try.prog 46 [v] w (fun r w2 => ∃ q e, r = .tuple #[.pointer q, i64 e] ∧ ((openF b = none ∧ e = 90) ∨ (e = 0 ∧ ∃ rows p, openF b = some rows ∧ q = some ⟨p, 0, none⟩ ∧ OG w2 p w.heap.size rows (sieveOf b))) ∧ Ext (fun _ => False) w w2) :=
  (open_fn h).mono fun r w2 hr => by
    obtain ⟨⟨h1, rfl⟩ | ⟨rows, p, h1, rfl, h2⟩, h3⟩ := hr
    · exact ⟨_, _, rfl, .inl ⟨h1, rfl⟩, h3⟩
    · exact ⟨_, _, rfl, .inr ⟨rfl, rows, p, h1, rfl, h2⟩, h3⟩
namespace table
noncomputable def checkT (b : Bs) : Int := match openF b with | none => 90 | some _ => 0
noncomputable def pagesT (b : Bs) : Nat × Int := match openF b with | none => (0, 90) | some rows => (rows.length, 0)
def row0 : Row := ⟨[], [], [], []⟩
noncomputable def endsT (b : Bs) : Bs × Bs × Int := match openF b with | none => ([], [], 90) | some rows => ((rows.getD 0 row0).fst, (rows.getD (rows.length - 1) row0).lst, 0)
theorem OG.val {w : World} {p lo : Nat} {rows : List Row} {sv : Bs} (h : OG w p lo rows sv) : ∃ a1 c1 a2 c2 a3 c3 a4 c4 v5, Blk w p 89 [.slice a1 rows.length c1, .slice a2 rows.length c2, .slice a3 rows.length c3, .slice a4 sv.length c4, v5] ∧ (Sl tBytes).rep All w (.slice a1 rows.length c1) (rows.map (·.bytes)) ∧ (Sl tStr).rep All w (.slice a2 rows.length c2) (rows.map (·.fst)) ∧ (Sl tStr).rep All w (.slice a3 rows.length c3) (rows.map (·.lst)) ∧ tBytes.rep All w (.slice a4 sv.length c4) sv ∧ OwnO tEntry (fun _ => False) 33 w v5 (entsR rows) (fun k => lo ≤ k) := by
  obtain ⟨v1, v2, v3, v4, v5, Bp, R1, R2, R3, R4, O5⟩ := h
  obtain ⟨a1, c1, rfl, hc1⟩ := Sl.val R1
  obtain ⟨a2, c2, rfl, hc2⟩ := Sl.val R2
  obtain ⟨a3, c3, rfl, hc3⟩ := Sl.val R3
  obtain ⟨a4, c4, rfl, hc4⟩ := Sl.val R4
  simp only [List.length_map] at R1 R2 R3 Bp
  exact ⟨a1, c1, a2, c2, a3, c3, a4, c4, v5, Bp, R1, R2, R3, R4, O5⟩
end table
theorem TCheck_fn {w : World} {v : Value} {b : Bs} (h : tBytes.rep All w v b) : Fn Try.prog 17 [v] w (fun r w2 => r = i64 (checkT b) ∧ Ext (fun _ => False) w w2) := by
  refine Fn.enter (fun w => Try.call17 _ w) Try.func17 rfl ?_
  refine .seq (.region ?_)
  refine .p rfl rfl (.as rfl) ?_
  refine .nil (.code (.seq (.keep [(0, _)] ⟨rfl, trivial⟩ (.region ?_))))
  refine .p rfl rfl (.mv rfl) ?_
  refine .call (first := []) (captured := []) rfl rfl rfl rfl (open_fn2 h) ?_
  rintro _ w7 ⟨q7, e7, rfl, ho7, X7⟩
  have z7 := X7.size
  refine .p rfl rfl (.mv rfl) ?_
  refine .p rfl rfl (.extract rfl rfl) ?_
  refine .p rfl rfl (.extract rfl rfl) ?_
  refine .p rfl rfl (.as rfl) ?_
  refine .p rfl rfl (.as rfl) ?_
  refine .nil (.code (.seq (.keep [(4, _)] ⟨rfl, trivial⟩ (.region ?_))))
  refine .p rfl rfl (.mv rfl) ?_
  refine .p rfl rfl (.as rfl) ?_
  refine .nil (.code ?_)
  refine .ret _ rfl ?_
  rcases ho7 with ⟨ho, rfl⟩ | ⟨rfl, rows, p, ho, rfl, hOG⟩
  · exact ⟨by unfold checkT; rw [ho]; rfl, X7⟩
  · exact ⟨by unfold checkT; rw [ho]; rfl, X7⟩
theorem TPages_fn {w : World} {v : Value} {b : Bs} (h : tBytes.rep All w v b) : Fn Try.prog 19 [v] w (fun r w2 => r = .tuple #[i64 ((pagesT b).1 : Nat), i64 (pagesT b).2] ∧ Ext (fun _ => False) w w2) := by
  refine Fn.enter (fun w => Try.call19 _ w) Try.func19 rfl ?_
  refine .seq (.region ?_)
  refine .p rfl rfl (.as rfl) ?_
  refine .p rfl rfl (.as rfl) ?_
  refine .nil (.code (.seq (.keep [(0, _)] ⟨rfl, trivial⟩ (.region ?_))))
  refine .p rfl rfl (.mv rfl) ?_
  refine .call (first := []) (captured := []) rfl rfl rfl rfl (open_fn2 h) ?_
  rintro _ w8 ⟨q8, e8, rfl, ho8, X8⟩
  have z8 := X8.size
  refine .p rfl rfl (.mv rfl) ?_
  refine .p rfl rfl (.extract rfl rfl) ?_
  refine .p rfl rfl (.extract rfl rfl) ?_
  refine .p rfl rfl (.as rfl) ?_
  refine .p rfl rfl (.as rfl) ?_
  refine .nil (.code (.seq (.seq (.keep [(5, _), (4, _)] ⟨rfl, rfl, trivial⟩ (.region ?_)))))
  refine .p rfl rfl (.mv rfl) ?_
  refine .p rfl rfl (.ne rfl rfl) ?_
  refine .nil (.code (.keep [(12, _), (5, _), (4, _)] ⟨rfl, rfl, rfl, trivial⟩ ?_))
  refine .condD rfl (fun c12 => ?_) (fun c12 => ?_)
  · rcases ho8 with ⟨ho, rfl⟩ | ⟨he, _⟩
    case inr => exact absurd he c12
    refine .seq (.keep [(5, _)] ⟨rfl, trivial⟩ (.region ?_))
    refine .p rfl rfl (.mv rfl) ?_
    refine .p rfl rfl (.as rfl) ?_
    refine .p rfl rfl (.as rfl) ?_
    refine .nil (.code ?_)
    refine .ret _ rfl ?_
    exact ⟨by unfold pagesT; rw [ho]; rfl, X8⟩
  · rcases ho8 with ⟨_, he⟩ | ⟨he, rows, p, ho, rfl, hOG⟩
    case inl => exact absurd (Decidable.not_not.1 c12) (by rw [he]; decide)
    subst he
    obtain ⟨a1, c1, a2, c2, a3, c3, a4, c4, v5, Bp, R1, R2, R3, R4, O5⟩ := hOG.val
    have hO := opened ho
    refine .skip (.code (.seq (.keep [(4, _)] ⟨rfl, trivial⟩ (.region ?_))))
    refine .p rfl rfl (.mv rfl) ?_
    refine .p rfl rfl (.nilCheck rfl) ?_
    refine .p rfl rfl (.fieldAddr rfl rfl rfl rfl) ?_
    refine .call (first := []) (captured := []) rfl rfl rfl rfl (count_fn Bp) ?_
    rintro _ w17 ⟨rfl, X17⟩
    refine .p rfl rfl (.as rfl) ?_
    refine .p rfl rfl (.as rfl) ?_
    refine .nil (.code ?_)
    refine .ret _ rfl ?_
    exact ⟨by unfold pagesT; rw [ho]; rfl, X8.trans X17⟩
theorem TEnds_fn {w : World} {v : Value} {b : Bs} (h : tBytes.rep All w v b) : Fn Try.prog 20 [v] w (fun r w2 => r = .tuple #[str (endsT b).1, str (endsT b).2.1, i64 (endsT b).2.2] ∧ Ext (fun _ => False) w w2) := by
  refine Fn.enter (fun w => Try.call20 _ w) Try.func20 rfl ?_
  refine .seq (.region ?_)
  refine .p rfl rfl (.as rfl) ?_
  refine .p rfl rfl (.as rfl) ?_
  refine .p rfl rfl (.as rfl) ?_
  refine .nil (.code (.seq (.keep [(0, _)] ⟨rfl, trivial⟩ (.region ?_))))
  refine .p rfl rfl (.mv rfl) ?_
  refine .call (first := []) (captured := []) rfl rfl rfl rfl (open_fn2 h) ?_
  rintro _ w8 ⟨q8, e8, rfl, ho8, X8⟩
  have z8 := X8.size
  refine .p rfl rfl (.mv rfl) ?_
  refine .p rfl rfl (.extract rfl rfl) ?_
  refine .p rfl rfl (.extract rfl rfl) ?_
  refine .p rfl rfl (.as rfl) ?_
  refine .p rfl rfl (.as rfl) ?_
  refine .nil (.code (.seq (.seq (.keep [(4, _), (5, _)] ⟨rfl, rfl, trivial⟩ (.region ?_)))))
  refine .p rfl rfl (.mv rfl) ?_
  refine .p rfl rfl (.ne rfl rfl) ?_
  refine .nil (.code (.keep [(12, _), (4, _), (5, _)] ⟨rfl, rfl, rfl, trivial⟩ ?_))
  refine .condD rfl (fun c12 => ?_) (fun c12 => ?_)
  · rcases ho8 with ⟨ho, rfl⟩ | ⟨he, _⟩
    case inr => exact absurd he c12
    refine .seq (.keep [(4, _)] ⟨rfl, trivial⟩ (.region ?_))
    refine .p rfl rfl (.mv rfl) ?_
    refine .p rfl rfl (.as rfl) ?_
    refine .p rfl rfl (.as rfl) ?_
    refine .p rfl rfl (.as rfl) ?_
    refine .nil (.code ?_)
    refine .ret _ rfl ?_
    exact ⟨by unfold endsT; rw [ho]; rfl, X8⟩
  · rcases ho8 with ⟨_, he⟩ | ⟨he, rows, p, ho, rfl, hOG⟩
    case inl => exact absurd (Decidable.not_not.1 c12) (by rw [he]; decide)
    subst he
    obtain ⟨a1, c1, a2, c2, a3, c3, a4, c4, v5, Bp, R1, R2, R3, R4, O5⟩ := hOG.val
    have hO := opened ho
    have hp0 := hO.pos
    have hpl := Sl.lim R2
    simp only [Lim, List.length_map] at hpl
    obtain ⟨b2, o2, q2, ue2, e2, hb2, hcs2, hre2⟩ := Sl.at R2 (i := 0) (x := rows[0].fst) (by rw [List.getElem?_map, List.getElem?_eq_getElem hp0]; rfl)
    obtain ⟨b3, o3, q3, ue3, e3, hb3, hcs3, hre3⟩ := Sl.at R3 (i := rows.length - 1) (x := rows[rows.length - 1].lst) (by rw [List.getElem?_map, List.getElem?_eq_getElem (by omega)]; rfl)
    injection e2 with e2 _ _
    injection e3 with e3 _ _
    subst e2
    subst e3
    obtain ⟨rfl, _⟩ := hre2
    obtain ⟨rfl, _⟩ := hre3
    refine .skip (.code (.seq (.keep [(5, _)] ⟨rfl, trivial⟩ (.mix (fun _ => False) [15] (by kernel_rfl) (by kernel_rfl) (by kernel_rfl) ?_))))
    refine .p rfl rfl rfl (fun wx hx => .mv rfl) ?_
    refine .p rfl rfl rfl (fun wx hx => .nilCheck rfl) ?_
    refine .p rfl rfl rfl (fun wx hx => .fieldAddr rfl rfl rfl rfl) ?_
    refine .p rfl rfl rfl (fun wx hx => .fieldAddr rfl rfl rfl rfl) ?_
    refine .p rfl rfl rfl (fun wx hx => .load rfl rfl rfl ((Bp.ext hx (fun x => x)).cell 1)) ?_
    refine .p rfl rfl rfl (fun wx hx => .indexAddr1 rfl rfl rfl rfl (by omega)) ?_
    refine .p rfl rfl rfl (fun wx hx => .load rfl rfl rfl (cell_at (i := 0) rfl (hcs2.ext hx (fun x => x)) rfl)) ?_
    refine .p rfl rfl rfl (fun wx hx => .mv rfl) ?_
    refine .p rfl rfl rfl (fun wx hx => .nilCheck rfl) ?_
    refine .p rfl rfl rfl (fun wx hx => .fieldAddr rfl rfl rfl rfl) ?_
    refine .p rfl rfl rfl (fun wx hx => .fieldAddr rfl rfl rfl rfl) ?_
    refine .p rfl rfl rfl (fun wx hx => .load rfl rfl rfl ((Bp.ext hx (fun x => x)).cell 2)) ?_
    refine .p rfl rfl rfl (fun wx hx => .mv rfl) ?_
    refine .p rfl rfl rfl (fun wx hx => .nilCheck rfl) ?_
    refine .p rfl rfl rfl (fun wx hx => .fieldAddr rfl rfl rfl rfl) ?_
    refine .call (first := []) (captured := []) rfl rfl rfl rfl rfl (count_fn Bp) (by rintro _ _ ⟨_, hx⟩; exact hx) ?_
    rintro _ w29 ⟨rfl, X29⟩
    refine .p rfl rfl rfl (fun wx hx => .sub rfl rfl (by omega)) ?_
    refine .p rfl rfl rfl (fun wx hx => .indexAddr1 rfl rfl rfl rfl (by omega)) ?_
    refine .p rfl rfl rfl (fun wx hx => .load rfl rfl rfl (by rw [show ((rows.length : Int) - 1).toNat = ((rows.length - 1 : Nat) : Int).toNat by omega]; exact cell_at rfl (hcs3.ext hx (fun x => x)) rfl)) ?_
    refine .p rfl rfl rfl (fun wx hx => .as rfl) ?_
    refine .p rfl rfl rfl (fun wx hx => .as rfl) ?_
    refine .p rfl rfl rfl (fun wx hx => .as rfl) ?_
    refine .nil (.code ?_)
    refine .ret _ rfl ?_
    have e : endsT b = (rows[0].fst, rows[rows.length - 1].lst, 0) := by unfold endsT; rw [ho]; simp only; rw [List.getD_eq_getElem?_getD, List.getD_eq_getElem?_getD, List.getElem?_eq_getElem hp0, List.getElem?_eq_getElem (show rows.length - 1 < rows.length by omega)]; rfl
    rw [e]
    exact ⟨rfl, X8.trans X29⟩
theorem TFindC_fn {w : World} {q q2 : Nat} {E E2 : TypeId} {key : Bs} {seq : Int} {u : Value} {x : Entry} (h : tEntry.rep All w u x) (hB : Blk w q E [str key]) (hB2 : Blk w q2 E2 [i64 seq]) : Fn Try.prog 51 ([] ++ [u] ++ [.pointer (some ⟨q, 0, none⟩), .pointer (some ⟨q2, 0, none⟩)]) w (fun r w2 => r = .bool (fitK key seq x) ∧ Ext (fun _ => False) w w2) := by
  obtain ⟨rfl, _⟩ := tEntry.val h
  refine Fn.enter (fun w => Try.call51 _ w) Try.func51 rfl ?_
  refine .seq (.region ?_)
  refine .v rfl rfl (.box rfl) ?_
  rintro _ w3 ⟨rfl, N3⟩
  refine .p rfl rfl (.as rfl) ?_
  refine .nil (.code (.seq (.keep [(3, _), (1, _), (2, _)] ⟨rfl, rfl, rfl, trivial⟩ (.region ?_))))
  refine .p rfl rfl (.fieldAddr rfl rfl rfl rfl) ?_
  refine .p rfl rfl (.load rfl rfl rfl (N3.blk.cell 0)) ?_
  refine .p rfl rfl (.load rfl rfl rfl ((hB.ext N3.ext (fun x => x)).cell 0)) ?_
  refine .p rfl rfl (.eqS rfl rfl) ?_
  refine .p rfl rfl (.mv rfl) ?_
  refine .caseD 9 rfl (fun c9 => ?_) (fun c9 => ?_)
  · refine .p rfl rfl (.fieldAddr rfl rfl rfl rfl) ?_
    refine .p rfl rfl (.load rfl rfl rfl (N3.blk.cell 2)) ?_
    refine .p rfl rfl (.load rfl rfl rfl ((hB2.ext N3.ext (fun x => x)).cell 0)) ?_
    refine .p rfl rfl (.le rfl rfl) ?_
    refine .p rfl rfl (.pickT rfl rfl) ?_
    refine .p rfl rfl (.as rfl) ?_
    refine .nil (.code ?_)
    refine .ret _ rfl ?_
    exact ⟨by unfold fitK; rw [decide_eq_true c9]; rfl, N3.ext⟩
  · refine .skip rfl rfl ?_
    refine .skip rfl rfl ?_
    refine .skip rfl rfl ?_
    refine .skip rfl rfl ?_
    refine .p rfl rfl (.pickF rfl rfl) ?_
    refine .p rfl rfl (.as rfl) ?_
    refine .nil (.code ?_)
    refine .ret _ rfl ?_
    exact ⟨by unfold fitK; rw [decide_eq_false c9]; rfl, N3.ext⟩
theorem TFind_fn {w : World} {v : Value} {b key : Bs} {seq : Int} (h : tBytes.rep All w v b) (hkl : key.length < Lim) : Fn Try.prog 16 [v, str key, i64 seq] w (fun r w2 => r = .tuple #[.agg #[str (findT b key seq).1.key, str (findT b key seq).1.value, i64 (findT b key seq).1.seq, .bool (findT b key seq).1.gone], .bool (findT b key seq).2.1, i64 (findT b key seq).2.2] ∧ Ext (fun _ => False) w w2) := by
  obtain ⟨a, cap, rfl, hcap⟩ := Sl.val h
  refine Fn.enter (fun w => Try.call16 _ w) Try.func16 rfl ?_
  refine .seq (.region ?_)
  refine .v rfl rfl (.box rfl) ?_
  rintro _ w4 ⟨rfl, N4⟩
  have z4 := N4.size
  refine .v rfl rfl (.box rfl) ?_
  rintro _ w5 ⟨rfl, N5⟩
  have z5 := N5.size
  refine .v rfl rfl (.alloc rfl rfl) ?_
  rintro _ w6 ⟨rfl, N6⟩
  have z6 := N6.size
  refine .p rfl rfl (.as rfl) ?_
  refine .p rfl rfl (.as rfl) ?_
  refine .nil (.code (.seq (.keep [(6, _), (5, _), (4, _), (0, _)] ⟨rfl, rfl, rfl, rfl, trivial⟩ (.region ?_))))
  refine .p rfl rfl (.mv rfl) ?_
  refine .call (first := []) (captured := []) rfl rfl rfl rfl (open_fn2 (tBytes.ext0 h ((N4.ext.trans N5.ext).trans N6.ext))) ?_
  rintro _ w19 ⟨q19, e19, rfl, ho19, X19⟩
  have z19 := X19.size
  have B4 := ((N4.blk.ext N5.ext (fun x => x)).ext N6.ext (fun x => x)).ext X19 (fun x => x)
  have B5 := (N5.blk.ext N6.ext (fun x => x)).ext X19 (fun x => x)
  have B6 := N6.blk.ext X19 (fun x => x)
  have Z19 := ((N4.ext.trans N5.ext).trans N6.ext).trans X19
  refine .p rfl rfl (.mv rfl) ?_
  refine .p rfl rfl (.extract rfl rfl) ?_
  refine .p rfl rfl (.extract rfl rfl) ?_
  refine .p rfl rfl (.as rfl) ?_
  refine .p rfl rfl (.as rfl) ?_
  refine .nil (.code (.seq (.block (.seq (.keep [(10, _), (9, _), (6, _), (5, _), (4, _)] ⟨rfl, rfl, rfl, rfl, rfl, trivial⟩ (.region ?_))))))
  refine .p rfl rfl (.mv rfl) ?_
  refine .p rfl rfl (.ne rfl rfl) ?_
  refine .p rfl rfl (.as rfl) ?_
  refine .nil (.code (.keep [(22, _), (10, _), (9, _), (6, _), (5, _), (4, _)] ⟨rfl, rfl, rfl, rfl, rfl, rfl, trivial⟩ ?_))
  refine .condD rfl (fun c22 => ?_) (fun c22 => ?_)
  · rcases ho19 with ⟨ho, rfl⟩ | ⟨he, _⟩
    case inr => exact absurd he c22
    refine .seq (.keep [(10, _), (6, _)] ⟨rfl, rfl, trivial⟩ (.region ?_))
    refine .p rfl rfl (.build (vs := []) (cs := [str [], str [], i64 0, .bool false]) rfl (fun _ => by kernel_rfl)) ?_
    refine .p rfl rfl (.mv rfl) ?_
    refine .s rfl (.storeAll (n := 4) rfl rfl rfl rfl rfl B6 rfl) ?_
    intro wz Pf
    refine .p rfl rfl (.as rfl) ?_
    refine .p rfl rfl (.as rfl) ?_
    refine .nil (.code ?_)
    refine .retR (.cell (n := 4) rfl rfl rfl rfl rfl (Pf.blk.cells) (.tmp rfl (.tmp rfl .nil))) ?_
    rw [findT_none ho]
    exact ⟨rfl, Z19.then Pf.ext (by rintro k rfl _; show w.heap.size ≤ _; omega)⟩
  · rcases ho19 with ⟨_, he⟩ | ⟨he, rows, p, ho, rfl, hOG⟩
    case inl => exact absurd (Decidable.not_not.1 c22) (by rw [he]; decide)
    subst he
    obtain ⟨a1, c1, a2, c2, a3, c3, a4, c4, v5, Bp, R1, R2, R3, R4, O5⟩ := hOG.val
    have hO := opened ho
    have hrl := Sl.lim R2
    simp only [Lim, List.length_map] at hrl
    refine .seq (.keep [(9, _), (6, _), (5, _), (4, _)] ⟨rfl, rfl, rfl, rfl, trivial⟩ (.region ?_))
    refine .p rfl rfl (.load rfl rfl rfl (B4.cell 0)) ?_
    refine .p rfl rfl (.eqS rfl rfl) ?_
    refine .p rfl rfl (.mv rfl) ?_
    refine .caseD 30 rfl (fun c30 => ?_) (fun c30 => ?_)
    · refine .skip rfl rfl ?_
      refine .skip rfl rfl ?_
      refine .skip rfl rfl ?_
      refine .p rfl rfl (.pickT rfl rfl) ?_
      refine .p rfl rfl (.as rfl) ?_
      refine .nil (.code (.keep [(27, _), (9, _), (6, _), (5, _), (4, _)] ⟨rfl, rfl, rfl, rfl, rfl, trivial⟩ (.condT rfl (.seq (.keep [(6, _)] ⟨rfl, trivial⟩ (.region ?_))))))
      refine .p rfl rfl (.build (vs := []) (cs := [str [], str [], i64 0, .bool false]) rfl (fun _ => by kernel_rfl)) ?_
      refine .s rfl (.storeAll (n := 4) rfl rfl rfl rfl rfl B6 rfl) ?_
      intro wz Pf
      refine .p rfl rfl (.as rfl) ?_
      refine .p rfl rfl (.as rfl) ?_
      refine .nil (.code ?_)
      refine .retR (.cell (n := 4) rfl rfl rfl rfl rfl (Pf.blk.cells) (.tmp rfl (.tmp rfl .nil))) ?_
      rw [findT_key ho (by first | exact .inl (by assumption) | exact .inr (by omega))]
      exact ⟨rfl, Z19.then Pf.ext (by rintro k rfl _; show w.heap.size ≤ _; omega)⟩
    · refine .p rfl rfl (.load rfl rfl rfl (B4.cell 0)) ?_
      refine .p rfl rfl (.lenS rfl rfl) ?_
      refine .p rfl rfl (.gt rfl rfl) ?_
      refine .p rfl rfl (.pickF rfl rfl) ?_
      refine .p rfl rfl (.as rfl) ?_
      refine .nil (.code (.keep [(27, _), (9, _), (6, _), (5, _), (4, _)] ⟨rfl, rfl, rfl, rfl, rfl, trivial⟩ ?_))
      refine .condD rfl (fun c27 => ?_) (fun c27 => ?_)
      · refine .seq (.keep [(6, _)] ⟨rfl, trivial⟩ (.region ?_))
        refine .p rfl rfl (.build (vs := []) (cs := [str [], str [], i64 0, .bool false]) rfl (fun _ => by kernel_rfl)) ?_
        refine .s rfl (.storeAll (n := 4) rfl rfl rfl rfl rfl B6 rfl) ?_
        intro wz Pf
        refine .p rfl rfl (.as rfl) ?_
        refine .p rfl rfl (.as rfl) ?_
        refine .nil (.code ?_)
        refine .retR (.cell (n := 4) rfl rfl rfl rfl rfl (Pf.blk.cells) (.tmp rfl (.tmp rfl .nil))) ?_
        rw [findT_key ho (by first | exact .inl (by assumption) | exact .inr (by omega))]
        exact ⟨rfl, Z19.then Pf.ext (by rintro k rfl _; show w.heap.size ≤ _; omega)⟩
      · refine .seq (.keep [(9, _), (6, _), (5, _), (4, _)] ⟨rfl, rfl, rfl, rfl, trivial⟩ (.region ?_))
        refine .p rfl rfl (.load rfl rfl rfl (B5.cell 0)) ?_
        refine .p rfl rfl (.lt rfl rfl) ?_
        refine .p rfl rfl (.mv rfl) ?_
        refine .caseD 39 rfl (fun c39 => ?_) (fun c39 => ?_)
        · refine .skip rfl rfl ?_
          refine .skip rfl rfl ?_
          refine .p rfl rfl (.pickT rfl rfl) ?_
          refine .p rfl rfl (.as rfl) ?_
          refine .nil (.code (.keep [(36, _), (9, _), (6, _), (5, _), (4, _)] ⟨rfl, rfl, rfl, rfl, rfl, trivial⟩ (.condT rfl (.seq (.keep [(6, _)] ⟨rfl, trivial⟩ (.region ?_))))))
          refine .p rfl rfl (.build (vs := []) (cs := [str [], str [], i64 0, .bool false]) rfl (fun _ => by kernel_rfl)) ?_
          refine .s rfl (.storeAll (n := 4) rfl rfl rfl rfl rfl B6 rfl) ?_
          intro wz Pf
          refine .p rfl rfl (.as rfl) ?_
          refine .p rfl rfl (.as rfl) ?_
          refine .nil (.code ?_)
          refine .retR (.cell (n := 4) rfl rfl rfl rfl rfl (Pf.blk.cells) (.tmp rfl (.tmp rfl .nil))) ?_
          rw [findT_seq ho (fun hh => hh.elim (by assumption) (by omega)) (by first | exact .inl (by omega) | exact .inr (by omega))]
          exact ⟨rfl, Z19.then Pf.ext (by rintro k rfl _; show w.heap.size ≤ _; omega)⟩
        · refine .p rfl rfl (.load rfl rfl rfl (B5.cell 0)) ?_
          refine .p rfl rfl (.gt rfl rfl) ?_
          refine .p rfl rfl (.pickF rfl rfl) ?_
          refine .p rfl rfl (.as rfl) ?_
          refine .nil (.code (.keep [(36, _), (9, _), (6, _), (5, _), (4, _)] ⟨rfl, rfl, rfl, rfl, rfl, trivial⟩ ?_))
          refine .condD rfl (fun c36 => ?_) (fun c36 => ?_)
          · refine .seq (.keep [(6, _)] ⟨rfl, trivial⟩ (.region ?_))
            refine .p rfl rfl (.build (vs := []) (cs := [str [], str [], i64 0, .bool false]) rfl (fun _ => by kernel_rfl)) ?_
            refine .s rfl (.storeAll (n := 4) rfl rfl rfl rfl rfl B6 rfl) ?_
            intro wz Pf
            refine .p rfl rfl (.as rfl) ?_
            refine .p rfl rfl (.as rfl) ?_
            refine .nil (.code ?_)
            refine .retR (.cell (n := 4) rfl rfl rfl rfl rfl (Pf.blk.cells) (.tmp rfl (.tmp rfl .nil))) ?_
            rw [findT_seq ho (fun hh => hh.elim (by assumption) (by omega)) (by first | exact .inl (by omega) | exact .inr (by omega))]
            exact ⟨rfl, Z19.then Pf.ext (by rintro k rfl _; show w.heap.size ≤ _; omega)⟩
          · refine .skip (.blk (.code (.seq (.seq (.keep [(9, _), (6, _), (5, _), (4, _)] ⟨rfl, rfl, rfl, rfl, trivial⟩ (.mix (fun _ => False) [5] (by kernel_rfl) (by kernel_rfl) (by kernel_rfl) ?_))))))
            refine .p rfl rfl rfl (fun wx hx => .mv rfl) ?_
            refine .p rfl rfl rfl (fun wx hx => .nilCheck rfl) ?_
            refine .p rfl rfl rfl (fun wx hx => .fieldAddr rfl rfl rfl rfl) ?_
            refine .p rfl rfl rfl (fun wx hx => .load rfl rfl rfl ((Bp.ext hx (fun x => x)).cell 3)) ?_
            refine .p rfl rfl rfl (fun wx hx => .load rfl rfl rfl ((B4.ext hx (fun x => x)).cell 0)) ?_
            refine .call (first := []) (captured := []) rfl rfl rfl rfl rfl (Has_fn (key := key) R4 hkl) (by rintro _ _ ⟨_, hx⟩; exact hx) ?_
            rintro _ w50 ⟨rfl, X50⟩
            have Z50 := Z19.trans X50
            have z50 := X50.size
            refine .p rfl rfl rfl (fun wx hx => .mv rfl) ?_
            refine .p rfl rfl rfl (fun wx hx => .extract rfl rfl) ?_
            refine .p rfl rfl rfl (fun wx hx => .extract rfl rfl) ?_
            refine .p rfl rfl rfl (fun wx hx => .as rfl) ?_
            refine .p rfl rfl rfl (fun wx hx => .as rfl) ?_
            refine .nil (.code (.seq (.keep [(11, _), (9, _), (6, _), (5, _), (4, _)] ⟨rfl, rfl, rfl, rfl, rfl, trivial⟩ (.region ?_))))
            refine .p rfl rfl (.mv rfl) ?_
            refine .p rfl rfl (.not rfl) ?_
            refine .nil (.code (.keep [(54, _), (9, _), (6, _), (5, _), (4, _)] ⟨rfl, rfl, rfl, rfl, rfl, trivial⟩ ?_))
            refine .cond rfl (fun c54 => ?_) (fun c54 => ?_)
            · refine .seq (.keep [(6, _)] ⟨rfl, trivial⟩ (.region ?_))
              refine .p rfl rfl (.build (vs := []) (cs := [str [], str [], i64 0, .bool false]) rfl (fun _ => by kernel_rfl)) ?_
              refine .s rfl (.storeAll (n := 4) rfl rfl rfl rfl rfl (B6.ext X50 (fun x => x)) rfl) ?_
              intro wz Pf
              refine .p rfl rfl (.as rfl) ?_
              refine .p rfl rfl (.as rfl) ?_
              refine .nil (.code ?_)
              refine .retR (.cell (n := 4) rfl rfl rfl rfl rfl (Pf.blk.cells) (.tmp rfl (.tmp rfl .nil))) ?_
              have hck := (makeT_ok hO.made).1
              have hsv : (sieve.hasF (sieveB (entsR rows)) key).1 = false := by rw [← (table_apart hO.made).sieve]; simpa using c54
              rw [findT_miss ho (fun hh => hh.elim (by assumption) (by omega)) (by omega) (newest_none (sieve_hides hck (makeT_ok hO.made).2.1 hsv))]
              exact ⟨rfl, Z50.then Pf.ext (by rintro k rfl _; show w.heap.size ≤ _; omega)⟩
            · refine .skip (.code (.seq (.seq (.keep [(9, _), (6, _), (5, _), (4, _)] ⟨rfl, rfl, rfl, rfl, trivial⟩ (.region ?_)))))
              refine .p rfl rfl (.mv rfl) ?_
              refine .p rfl rfl (.nilCheck rfl) ?_
              refine .p rfl rfl (.fieldAddr rfl rfl rfl rfl) ?_
              refine .call (first := []) (captured := []) rfl rfl rfl rfl (count_fn (Bp.ext X50 (fun x => x))) ?_
              rintro _ w59 ⟨rfl, X59⟩
              have z59 := X59.size
              have X519 := X50.trans X59
              have Z59 := Z50.trans X59
              refine .p rfl rfl (.mv rfl) ?_
              refine .nil (.code (.block (.keep [(60, _), (59, _), (9, _), (6, _), (5, _), (4, _)] ⟨rfl, rfl, rfl, rfl, rfl, rfl, trivial⟩ ?_)))
              refine .loop (S := Nat × World) (fun s => [(4, .pointer (some ⟨w.heap.size, 0, none⟩)), (5, .pointer (some ⟨w4.heap.size, 0, none⟩)), (6, .pointer (some ⟨w5.heap.size, 0, none⟩)), (9, .pointer (some ⟨p, 0, none⟩)), (59, i64 rows.length), (60, i64 s.1)]) (fun s => s.2) (fun s => s.1 ≤ rows.length ∧ (∀ x ∈ entsR (rows.take s.1), fitK key seq x = false) ∧ Ext (fun _ => False) w19 s.2) (fun s => rows.length - s.1) (0, w59) ⟨rfl, rfl, rfl, rfl, rfl, rfl, trivial⟩ rfl ⟨Nat.zero_le _, (fun x hx => by cases hx), X519⟩ ?_
              rintro ⟨i, wi⟩ J ⟨hi', hno, XL⟩ again
              simp only at hi' hno XL
              have Bi := Bp.ext XL (fun x => x)
              have zwi := XL.size
              change G _ [(4, .pointer (some ⟨w.heap.size, 0, none⟩)), (5, .pointer (some ⟨w4.heap.size, 0, none⟩)), (6, .pointer (some ⟨w5.heap.size, 0, none⟩)), (9, .pointer (some ⟨p, 0, none⟩)), (59, i64 rows.length), (60, i64 i)] _ _ wi
              refine .seq (.region ?_)
              refine .p rfl rfl (.lt rfl rfl) ?_
              refine .nil (.code (.seq ?_))
              refine .condD rfl (fun c61 => ?_) (fun c61 => ?_)
              · have hi : i < rows.length := by omega
                obtain ⟨q, hq, hqm, hqc, hqr, ea, ec, hqe, hqa, hqt⟩ := hO.row hi
                have hqb : rows[i].bytes = pageB q := by rw [hq]; rfl
                obtain ⟨b1, o1, q1, ue1, e1, hb1, hcs1, hre1⟩ := Sl.at R1 (i := i) (x := rows[i].bytes) (by rw [List.getElem?_map, List.getElem?_eq_getElem hi]; rfl)
                obtain ⟨b2, o2, q2, ue2, e2, hb2, hcs2, hre2⟩ := Sl.at R2 (i := i) (x := rows[i].fst) (by rw [List.getElem?_map, List.getElem?_eq_getElem hi]; rfl)
                obtain ⟨b3, o3, q3, ue3, e3, hb3, hcs3, hre3⟩ := Sl.at R3 (i := i) (x := rows[i].lst) (by rw [List.getElem?_map, List.getElem?_eq_getElem hi]; rfl)
                injection e1 with e1 _ _
                injection e2 with e2 _ _
                injection e3 with e3 _ _
                subst e1
                subst e2
                subst e3
                obtain ⟨rfl, _⟩ := hre2
                obtain ⟨rfl, _⟩ := hre3
                obtain ⟨ae, ce, rfl, hce⟩ := Sl.val hre1
                refine .skip (.code (.seq (.block (.seq (.keep [(4, _), (5, _), (6, _), (9, _), (59, _), (60, _)] ⟨rfl, rfl, rfl, rfl, rfl, rfl, trivial⟩ (.region ?_))))))
                refine .p rfl rfl (.mv rfl) ?_
                refine .p rfl rfl (.as rfl) ?_
                refine .nil (.code (.seq (.seq (.keep [(13, _), (4, _), (5, _), (6, _), (9, _), (59, _), (60, _)] ⟨rfl, rfl, rfl, rfl, rfl, rfl, rfl, trivial⟩ (.draws (by kernel_rfl) (by kernel_rfl) ?_)))))
                refine .p rfl rfl (.mv rfl) ?_
                refine .p rfl rfl (.nilCheck rfl) ?_
                refine .p rfl rfl (.fieldAddr rfl rfl rfl rfl) ?_
                refine .p rfl rfl (.fieldAddr rfl rfl rfl rfl) ?_
                refine .p rfl rfl (.load rfl rfl rfl (Bi.cell 2)) ?_
                refine .p rfl rfl (.mv rfl) ?_
                refine .p rfl rfl (.indexAddr1 rfl rfl rfl rfl (by omega)) ?_
                refine .p rfl rfl (.load rfl rfl rfl (cell_at rfl (hcs3.ext XL (fun x => x)) rfl)) ?_
                refine .p rfl rfl (.load rfl rfl rfl ((B4.ext XL (fun x => x)).cell 0)) ?_
                refine .p rfl rfl (.ltS rfl rfl) ?_
                refine .p rfl rfl (.mv rfl) ?_
                refine .case 73 rfl (fun c73 => ?_) (fun c73 => ?_)
                · refine .skip rfl rfl ?_
                  refine .skip rfl rfl ?_
                  refine .skip rfl rfl ?_
                  refine .skip rfl rfl ?_
                  refine .skip rfl rfl ?_
                  refine .skip rfl rfl ?_
                  refine .skip rfl rfl ?_
                  refine .skip rfl rfl ?_
                  refine .skip rfl rfl ?_
                  refine .skip rfl rfl ?_
                  refine .p rfl rfl (.pickT rfl rfl) ?_
                  refine .nil (.code (.keep [(84, _), (13, _), (4, _), (5, _), (6, _), (9, _), (59, _), (60, _)] ⟨rfl, rfl, rfl, rfl, rfl, rfl, rfl, rfl, trivial⟩ (.condT rfl (.exit rfl (.code (.keep [(4, _), (5, _), (6, _), (9, _), (59, _), (60, _)] ⟨rfl, rfl, rfl, rfl, rfl, rfl, trivial⟩ (.region ?_)))))))
                  refine .p rfl rfl (.add rfl rfl (by omega)) ?_
                  refine .p rfl rfl (.mv rfl) ?_
                  refine .nil ?_
                  exact (again (i + 1, wi) ⟨by show i + 1 ≤ _; omega, by show ∀ x ∈ entsR (rows.take (i + 1)), _; rw [hqt]; intro x hx; rcases List.mem_append.1 hx with hx | hx; (exact hno x (by rw [← hqa]; exact hx)); (exact fit_lo hqc (by rw [show lstK q = rows[i].lst by rw [hq]; rfl]; exact c73) x hx), XL⟩ (by show _ - (i + 1) < _ - i; omega)).of ⟨rfl, rfl, rfl, rfl, rfl, rfl, trivial⟩
                · refine .p rfl rfl (.mv rfl) ?_
                  refine .p rfl rfl (.nilCheck rfl) ?_
                  refine .p rfl rfl (.fieldAddr rfl rfl rfl rfl) ?_
                  refine .p rfl rfl (.fieldAddr rfl rfl rfl rfl) ?_
                  refine .p rfl rfl (.load rfl rfl rfl (Bi.cell 1)) ?_
                  refine .p rfl rfl (.mv rfl) ?_
                  refine .p rfl rfl (.indexAddr1 rfl rfl rfl rfl (by omega)) ?_
                  refine .p rfl rfl (.load rfl rfl rfl (cell_at rfl (hcs2.ext XL (fun x => x)) rfl)) ?_
                  refine .p rfl rfl (.load rfl rfl rfl ((B4.ext XL (fun x => x)).cell 0)) ?_
                  refine .p rfl rfl (.gtS rfl rfl) ?_
                  refine .p rfl rfl (.pickF rfl rfl) ?_
                  refine .nil (.code (.keep [(84, _), (13, _), (4, _), (5, _), (6, _), (9, _), (59, _), (60, _)] ⟨rfl, rfl, rfl, rfl, rfl, rfl, rfl, rfl, trivial⟩ ?_))
                  refine .cond rfl (fun c84 => ?_) (fun c84 => ?_)
                  · refine .exit rfl (.code (.keep [(4, _), (5, _), (6, _), (9, _), (59, _), (60, _)] ⟨rfl, rfl, rfl, rfl, rfl, rfl, trivial⟩ (.region ?_)))
                    refine .p rfl rfl (.add rfl rfl (by omega)) ?_
                    refine .p rfl rfl (.mv rfl) ?_
                    refine .nil ?_
                    exact (again (i + 1, wi) ⟨by show i + 1 ≤ _; omega, by show ∀ x ∈ entsR (rows.take (i + 1)), _; rw [hqt]; intro x hx; rcases List.mem_append.1 hx with hx | hx; (exact hno x (by rw [← hqa]; exact hx)); (exact fit_hi hqc (by rw [show fstK q = rows[i].fst by rw [hq]; rfl]; exact c84) x hx), XL⟩ (by show _ - (i + 1) < _ - i; omega)).of ⟨rfl, rfl, rfl, rfl, rfl, rfl, trivial⟩
                  · refine .skip (.code (.seq (.keep [(13, _), (4, _), (5, _), (6, _), (9, _), (59, _), (60, _)] ⟨rfl, rfl, rfl, rfl, rfl, rfl, rfl, trivial⟩ (.region ?_))))
                    refine .p rfl rfl (.mv rfl) ?_
                    refine .p rfl rfl (.nilCheck rfl) ?_
                    refine .p rfl rfl (.fieldAddr rfl rfl rfl rfl) ?_
                    refine .p rfl rfl (.fieldAddr rfl rfl rfl rfl) ?_
                    refine .p rfl rfl (.load rfl rfl rfl (Bi.cell 0)) ?_
                    refine .p rfl rfl (.mv rfl) ?_
                    refine .p rfl rfl (.indexAddr1 rfl rfl rfl rfl (by omega)) ?_
                    refine .p rfl rfl (.load rfl rfl rfl (cell_at rfl (hcs1.ext XL (fun x => x)) rfl)) ?_
                    refine .call (first := []) (captured := []) rfl rfl rfl rfl (PRead_fn ((tBytes.ext0 hre1 XL))) ?_
                    rintro _ w94 ⟨v94, rfl, O94, X94⟩
                    rw [hqb, hqr] at O94
                    rw [hqb, hqr]
                    have R94 := OwnO.rep O94 (R := All) (fun _ _ _ => trivial) (fun _ h _ => h.elim)
                    obtain ⟨a94, c94, rfl, hc94⟩ := OwnO.val O94
                    have z94 := X94.size
                    refine .p rfl rfl (.mv rfl) ?_
                    refine .p rfl rfl (.extract rfl rfl) ?_
                    refine .p rfl rfl (.extract rfl rfl) ?_
                    refine .p rfl rfl (.as rfl) ?_
                    refine .p rfl rfl (.as rfl) ?_
                    refine .nil (.code (.seq (.keep [(14, _), (4, _), (5, _), (6, _), (9, _), (59, _), (60, _)] ⟨rfl, rfl, rfl, rfl, rfl, rfl, rfl, trivial⟩ (.region ?_))))
                    refine .p rfl rfl (.mv rfl) ?_
                    refine .p rfl rfl (.makeFunc rfl rfl) ?_
                    refine .call (first := []) (captured := []) rfl rfl rfl rfl (IndexFunc_fn (f := 51) (cap := [.pointer (some ⟨w.heap.size, 0, none⟩), .pointer (some ⟨w4.heap.size, 0, none⟩)]) (p := fitK key seq) R94 (fun x u w' hu hx => TFindC_fn hu (((B4.ext XL (fun x => x)).ext X94 (fun x => x)).ext hx (fun x => x)) (((B5.ext XL (fun x => x)).ext X94 (fun x => x)).ext hx (fun x => x)))) ?_
                    rintro _ w99 ⟨rfl, X99⟩
                    have z99 := X99.size
                    refine .p rfl rfl (.as rfl) ?_
                    refine .nil (.code (.seq (.keep [(16, _), (14, _), (4, _), (5, _), (6, _), (9, _), (59, _), (60, _)] ⟨rfl, rfl, rfl, rfl, rfl, rfl, rfl, rfl, trivial⟩ (.region ?_))))
                    refine .p rfl rfl (.mv rfl) ?_
                    refine .p rfl rfl (.ge rfl rfl) ?_
                    refine .nil (.code (.keep [(101, _), (16, _), (14, _), (4, _), (5, _), (6, _), (9, _), (59, _), (60, _)] ⟨rfl, rfl, rfl, rfl, rfl, rfl, rfl, rfl, rfl, trivial⟩ ?_))
                    refine .condD rfl (fun c101 => ?_) (fun c101 => ?_)
                    · obtain ⟨j, hj1, hj2, hjl⟩ := idxI_ge c101
                      rw [hj2]
                      obtain ⟨bx, ox, cx, uex, ex, _, hcsx, hrex⟩ := Sl.at R94 (List.getElem?_eq_getElem hjl)
                      cases ex
                      obtain ⟨rfl, g1, g2, g3⟩ := tEntry.val hrex
                      refine .seq (.keep [(16, _), (14, _), (6, _)] ⟨rfl, rfl, rfl, trivial⟩ (.region ?_))
                      refine .p rfl rfl (.mv rfl) ?_
                      refine .p rfl rfl (.mv rfl) ?_
                      refine .p rfl rfl (.indexAddr (s := 4) rfl rfl rfl rfl (by omega)) ?_
                      refine .p rfl rfl (.loadA (n := 4) rfl rfl rfl rfl rfl (hcsx.ext X99 (fun x => x))) ?_
                      refine .s rfl (.storeAll (n := 4) rfl rfl rfl rfl rfl (((B6.ext XL (fun x => x)).ext X94 (fun x => x)).ext X99 (fun x => x)) rfl) ?_
                      intro wz Pf
                      refine .p rfl rfl (.as rfl) ?_
                      refine .p rfl rfl (.as rfl) ?_
                      refine .nil (.code ?_)
                      refine .retR (.cell (n := 4) rfl rfl rfl rfl rfl (Pf.blk.cells) (.tmp rfl (.tmp rfl .nil))) ?_
                      rw [findT_some ho (fun hh => hh.elim (by assumption) (by omega)) (by omega) (by rw [hqe]; exact newest_some (by rw [hqa]; exact hno) hjl hj1)]
                      exact ⟨rfl, (((Z19.trans XL).trans X94).trans X99).then Pf.ext (by rintro k rfl _; show w.heap.size ≤ _; omega)⟩
                    · refine .skip (.blk (.code (.keep [(4, _), (5, _), (6, _), (9, _), (59, _), (60, _)] ⟨rfl, rfl, rfl, rfl, rfl, rfl, trivial⟩ (.region ?_))))
                      refine .p rfl rfl (.add rfl rfl (by omega)) ?_
                      refine .p rfl rfl (.mv rfl) ?_
                      refine .nil ?_
                      exact (again (i + 1, w99) ⟨by show i + 1 ≤ _; omega, by show ∀ x ∈ entsR (rows.take (i + 1)), _; rw [hqt]; intro x hx; rcases List.mem_append.1 hx with hx | hx; (exact hno x (by rw [← hqa]; exact hx)); (have hnn := List.findIdx?_eq_none_iff.1 (idxI_lt c101) x hx; simpa using hnn), (XL.trans X94).trans X99⟩ (by show _ - (i + 1) < _ - i; omega)).of ⟨rfl, rfl, rfl, rfl, rfl, rfl, trivial⟩
              · obtain rfl : i = rows.length := by omega
                rw [List.take_length] at hno
                refine .exit rfl (.code (.seq (.keep [(6, _)] ⟨rfl, trivial⟩ (.region ?_))))
                refine .p rfl rfl (.build (vs := []) (cs := [str [], str [], i64 0, .bool false]) rfl (fun _ => by kernel_rfl)) ?_
                refine .s rfl (.storeAll (n := 4) rfl rfl rfl rfl rfl (B6.ext XL (fun x => x)) rfl) ?_
                intro wz Pf
                refine .p rfl rfl (.as rfl) ?_
                refine .p rfl rfl (.as rfl) ?_
                refine .nil (.code ?_)
                refine .retR (.cell (n := 4) rfl rfl rfl rfl rfl (Pf.blk.cells) (.tmp rfl (.tmp rfl .nil))) ?_
                rw [findT_miss ho (fun hh => hh.elim (by assumption) (by omega)) (by omega) (newest_none hno)]
                exact ⟨rfl, (Z19.trans XL).then Pf.ext (by rintro k rfl _; show w.heap.size ≤ _; omega)⟩
end Go.Proofs.Ythkgadhamecnlaa
