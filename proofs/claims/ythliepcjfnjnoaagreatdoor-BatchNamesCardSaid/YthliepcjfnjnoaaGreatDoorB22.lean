import Derived.Test.YthliepcjfnjnoaaGreatDoorB17
import Derived.Test.YthliepcjfnjnoaaGreatDoorB08
import Derived.Test.YthliepcjfnjnoaaGreatDoorB18
import Derived.Test.YthliepcjfnjnoaaGreatDoorB21
import Derived.Test.YthliepcjfnjnoaaGreatDoorB15
set_option linter.unusedVariables false
set_option linter.unusedSimpArgs false
set_option maxRecDepth 20000
namespace Go.Proofs.YthliepcjfnjnoaaGreatDoor
open Go page tree
namespace tree
def entC (seq : Nat) (c : Change) : Entry := ⟨c.key, c.value, (seq : Int), c.gone⟩
def entsTo (ls : List (List Change)) : Nat → List Entry
  | 0 => []
  | k + 1 => entsTo ls k ++ (ls.getD k []).map (entC (k + 1))
def RecsOK (rs : List Bs) (ls : List (List Change)) : Prop := ∀ i (h : i < rs.length), readT rs[i] = (ls.getD i [], ((i + 1 : Nat) : Int), 0)
theorem ents_le (ls : List (List Change)) : ∀ {k n : Nat}, k ≤ n → (entsTo ls k).length ≤ (entsTo ls n).length
  | k, 0, h => by obtain rfl : k = 0 := by omega
                  exact Nat.le_refl _
  | k, n + 1, h => by
    rcases Nat.lt_or_ge k (n + 1) with h1 | h1
    · have := ents_le ls (k := k) (n := n) (by omega)
      rw [entsTo, List.length_append]
      omega
    · obtain rfl : k = n + 1 := by omega
      exact Nat.le_refl _
end tree
theorem shapeD {P : Nat → Prop} {w : World} {v : Value} {d : disk.Disk} (h : disk.tDisk.rep P w v d) : ∃ a1 c1 a2 c2, v = .agg #[i64 d.count, .slice a1 d.data.length c1, .slice a2 d.waits.length c2] := by
  obtain ⟨u1, u2, rfl, h1, h2, _⟩ := disk.tDisk.val h
  obtain ⟨a1, c1, rfl, _⟩ := Sl.val h1
  obtain ⟨a2, c2, rfl, _⟩ := Sl.val h2
  exact ⟨a1, c1, a2, c2, rfl⟩
theorem read_fn {w : World} {v : Value} {d : disk.Disk} {rs : List Bs} {ls : List (List Change)} (h : disk.tDisk.rep All w v d) (hg : files.GOK w) (hnm : files.namesF d = ([], 0)) (hst : (log.stateF d).2 = 0) (hrs : (log.stateF d).1.recs = rs) (hok : RecsOK rs ls) (h12 : (entsTo ls rs.length).length ≤ 12) (h63 : rs.length ≤ 63) : Fn Tryz.prog 38 [v] w (fun r w2 => ∃ b sv es, r = .tuple #[.pointer (some ⟨b, 0, none⟩), i64 0] ∧ StP w2 b sv rs.length ∧ (Sl tEntry).rep All w2 sv es ∧ es.Perm (entsTo ls rs.length) ∧ es.Pairwise gtE ∧ Ext (fun _ => False) w w2) := by
  obtain ⟨a1, k1, a2, k2, rfl⟩ := shapeD h
  refine Fn.enter (fun w => Tryz.call38 _ w) Tryz.func38 rfl ?_
  refine .seq (.region ?_)
  refine .v rfl rfl (.box rfl) ?_
  rintro _ w1 ⟨rfl, N1⟩
  have B1 := N1.blk
  have X1 := N1.ext
  have z1 := N1.size
  refine .p rfl rfl (.as rfl) ?_
  refine .p rfl rfl (.as rfl) ?_
  refine .nil (.code (.seq (.keep [(1, _)] ⟨rfl, trivial⟩ (.region ?_))))
  refine .p rfl rfl (.loadA (n := 3) rfl rfl rfl rfl rfl (B1.ext (S := fun _ => False) (by repeat (first | exact Ext.refl _ | assumption | refine Ext.trans (by assumption) ?_)) (fun x => x)).cells) ?_
  refine .call (first := []) (captured := []) rfl rfl rfl rfl (Names_fn (disk.tDisk.ext0 h (by repeat (first | exact Ext.refl _ | assumption | refine Ext.trans (by assumption) ?_))) (hg.ext0 (by repeat (first | exact Ext.refl _ | assumption | refine Ext.trans (by assumption) ?_)))) ?_
  rintro _ w34 ⟨v34, rfl, G34, X34⟩
  have z34 := X34.size
  rw [hnm] at G34 ⊢
  obtain ⟨a34, c34, rfl, _⟩ := OwnO.val G34
  refine .p rfl rfl (.mv rfl) ?_
  refine .p rfl rfl (.extract rfl rfl) ?_
  refine .p rfl rfl (.extract rfl rfl) ?_
  refine .p rfl rfl (.as rfl) ?_
  refine .p rfl rfl (.as rfl) ?_
  refine .nil (.code (.seq (.seq (.keep [(5, _), (4, _), (1, _)] ⟨rfl, rfl, rfl, trivial⟩ (.region ?_)))))
  refine .p rfl rfl (.mv rfl) ?_
  refine .p rfl rfl (.no (.ne rfl rfl) (fun h => h rfl)) ?_
  refine .nil (.code (.keep [(38, _), (5, _), (4, _), (1, _)] ⟨rfl, rfl, rfl, rfl, trivial⟩ (.condF rfl (.skip (.code (.seq (.keep [(4, _), (1, _)] ⟨rfl, rfl, trivial⟩ (.region ?_))))))))
  refine .p rfl rfl (.loadA (n := 3) rfl rfl rfl rfl rfl (B1.ext (S := fun _ => False) (by repeat (first | exact Ext.refl _ | assumption | refine Ext.trans (by assumption) ?_)) (fun x => x)).cells) ?_
  refine .call (first := []) (captured := []) rfl rfl rfl rfl (Records_fn (disk.tDisk.ext0 h (by repeat (first | exact Ext.refl _ | assumption | refine Ext.trans (by assumption) ?_)))) ?_
  rintro _ w42 ⟨v42, rfl, R42, X42⟩
  have z42 := X42.size
  rw [hst]
  rw [hrs] at R42
  obtain ⟨a42, c42, rfl, hc42⟩ := Sl.val R42
  refine .p rfl rfl (.mv rfl) ?_
  refine .p rfl rfl (.extract rfl rfl) ?_
  refine .p rfl rfl (.extract rfl rfl) ?_
  refine .p rfl rfl (.as rfl) ?_
  refine .p rfl rfl (.as rfl) ?_
  refine .nil (.code (.seq (.seq (.keep [(5, _), (6, _), (4, _), (1, _)] ⟨rfl, rfl, rfl, rfl, trivial⟩ (.region ?_)))))
  refine .p rfl rfl (.mv rfl) ?_
  refine .p rfl rfl (.no (.ne rfl rfl) (fun h => h rfl)) ?_
  refine .nil (.code (.keep [(46, _), (5, _), (6, _), (4, _), (1, _)] ⟨rfl, rfl, rfl, rfl, rfl, trivial⟩ (.condF rfl (.skip (.code (.seq (.keep [(6, _), (4, _), (1, _)] ⟨rfl, rfl, rfl, trivial⟩ (.region ?_))))))))
  refine .p rfl rfl (.loadA (n := 3) rfl rfl rfl rfl rfl (B1.ext (S := fun _ => False) (by repeat (first | exact Ext.refl _ | assumption | refine Ext.trans (by assumption) ?_)) (fun x => x)).cells) ?_
  refine .p rfl rfl (.mv rfl) ?_
  refine .p rfl rfl (.len rfl rfl) ?_
  refine .p rfl rfl (.build (cs := [i64 d.count, .slice a1 d.data.length k1, .slice a2 d.waits.length k2, .slice none 0 0, .slice none 0 0, i64 rs.length, i64 0, i64 0]) rfl (fun _ => by kernel_rfl)) ?_
  refine .v rfl rfl (.box rfl) ?_
  rintro _ w52 ⟨rfl, N52⟩
  have B52 := N52.blk
  have X52 := N52.ext
  have z52 := N52.size
  have B52 : Blk w52 w42.heap.size 83 [i64 d.count, .slice a1 d.data.length k1, .slice a2 d.waits.length k2, .slice none 0 0, .slice none 0 0, i64 rs.length, i64 0, i64 0] := N52.blk
  refine .p rfl rfl (.as rfl) ?_
  refine .nil (.code (.seq (.keep [(7, _), (6, _), (4, _), (1, _)] ⟨rfl, rfl, rfl, rfl, trivial⟩ (.region ?_))))
  refine .v rfl rfl (.makeMap (K := i64) trivial) ?_
  rintro _ w53 ⟨rfl, M53, X53, z53⟩
  clear M53
  refine .p rfl rfl (.as rfl) ?_
  refine .nil (.code (.seq (.keep [(8, _), (7, _), (6, _), (4, _), (1, _)] ⟨rfl, rfl, rfl, rfl, rfl, trivial⟩ (.region ?_))))
  refine .p rfl rfl (.as rfl) ?_
  refine .nil (.code (.seq (.seq (.region ?_))))
  refine .p rfl rfl (.mv rfl) ?_
  refine .p rfl rfl (.len rfl rfl) ?_
  refine .p rfl rfl (.mv rfl) ?_
  refine .nil (.code (.block (.keep [(56, _), (55, _), (54, _), (9, _), (8, _), (7, _), (6, _), (1, _)] ⟨rfl, rfl, rfl, rfl, rfl, rfl, rfl, rfl, trivial⟩ ?_)))
  refine .loop (S := Unit) (fun s => [(6, .slice a42 rs.length c42), (7, .pointer (some ⟨w42.heap.size, 0, none⟩)), (9, .slice none 0 0), (54, .slice a34 0 c34), (55, i64 0), (56, i64 0)]) (fun s => w53) (fun s => True) (fun s => 0) () ⟨rfl, rfl, rfl, rfl, rfl, rfl, trivial⟩ rfl trivial ?_
  rintro ⟨⟩ J _ again
  change G _ [(6, .slice a42 rs.length c42), (7, .pointer (some ⟨w42.heap.size, 0, none⟩)), (9, .slice none 0 0), (54, .slice a34 0 c34), (55, i64 0), (56, i64 0)] _ _ w53
  refine .seq (.region ?_)
  refine .p rfl rfl (.no (.lt rfl rfl) (by decide)) ?_
  refine .nil (.code (.seq (.condF rfl (.exit rfl (.code (.seq (.seq (.keep [(6, _), (7, _), (9, _)] ⟨rfl, rfl, rfl, trivial⟩ (.region ?_)))))))))
  refine .p rfl rfl (.mv rfl) ?_
  refine .call (first := []) (captured := []) rfl rfl rfl rfl (AllNil_fn) ?_
  rintro _ w126 ⟨rfl, X126⟩
  have z126 := X126.size
  refine .p rfl rfl (.mv rfl) ?_
  refine .p rfl rfl (.extract rfl rfl) ?_
  refine .p rfl rfl (.extract rfl rfl) ?_
  refine .p rfl rfl (.as rfl) ?_
  refine .p rfl rfl (.as rfl) ?_
  refine .nil (.code (.seq (.keep [(23, _), (6, _), (7, _)] ⟨rfl, rfl, rfl, trivial⟩ (.region ?_))))
  refine .p rfl rfl (.mv rfl) ?_
  refine .p rfl rfl (.no (.ne rfl rfl) (fun h => h rfl)) ?_
  refine .nil (.code (.keep [(130, _), (6, _), (7, _)] ⟨rfl, rfl, rfl, trivial⟩ (.condF rfl (.skip (.code (.seq (.keep [(6, _), (7, _)] ⟨rfl, rfl, trivial⟩ (.region ?_))))))))
  refine .p rfl rfl (.mv rfl) ?_
  refine .p rfl rfl (.mv rfl) ?_
  refine .p rfl rfl (.nilCheck rfl) ?_
  refine .p rfl rfl (.fieldAddr rfl rfl rfl rfl) ?_
  refine .p rfl rfl (.load rfl rfl rfl ((B52.ext (S := fun _ => False) (by repeat (first | exact Ext.refl _ | assumption | refine Ext.trans (by assumption) ?_)) (fun x => x)).cell 6)) ?_
  refine .p rfl rfl (.nilCheck rfl) ?_
  refine .p rfl rfl (.fieldAddr rfl rfl rfl rfl) ?_
  refine .s rfl (.store rfl rfl rfl rfl rfl (B52.ext (S := fun _ => False) (by repeat (first | exact Ext.refl _ | assumption | refine Ext.trans (by assumption) ?_)) (fun x => x)) (by simp)) ?_
  intro w26 P26
  have z26 := P26.size
  have BS : Blk w26 w42.heap.size 83 [i64 d.count, .slice a1 d.data.length k1, .slice a2 d.waits.length k2, .slice none 0 0, .slice none 0 0, i64 rs.length, i64 0, i64 ((0 : Nat) : Int)] := P26.blk
  have R42' := tStrs.mono R42 (P' := fun k => k < w42.heap.size) (fun k _ hl => hl)
  have X26 : Ext (fun k => w42.heap.size ≤ k) w42 w26 := ((X52.trans (X53.trans X126)).mono (fun _ _ h => h.elim)).trans (P26.ext.mono (by rintro k _ rfl; exact Nat.le_refl _))
  refine .nil (.code (.seq (.keep [(6, _), (7, _)] ⟨rfl, rfl, trivial⟩ (.region ?_))))
  refine .p rfl rfl (.as rfl) ?_
  refine .nil (.code (.seq (.seq (.region ?_))))
  refine .p rfl rfl (.mv rfl) ?_
  refine .p rfl rfl (.len rfl rfl) ?_
  refine .p rfl rfl (.mv rfl) ?_
  refine .nil (.code (.block ?_))
  refine .loop (S := Nat × Value × World) (fun s => [(6, .slice a42 rs.length c42), (7, .pointer (some ⟨w42.heap.size, 0, none⟩)), (24, i64 (s.1 : Nat)), (138, .slice a42 rs.length c42), (139, i64 rs.length), (140, i64 (s.1 : Nat))]) (fun s => s.2.2) (fun s => s.1 ≤ rs.length ∧ Blk s.2.2 w42.heap.size 83 [i64 d.count, .slice a1 d.data.length k1, .slice a2 d.waits.length k2, .slice none 0 0, s.2.1, i64 rs.length, i64 0, i64 (s.1 : Nat)] ∧ OwnO tEntry (fun _ => False) 85 s.2.2 s.2.1 (entsTo ls s.1) (fun k => w42.heap.size < k) ∧ Ext (fun k => w42.heap.size ≤ k) w42 s.2.2) (fun s => rs.length - s.1) (0, .slice none 0 0, w26) ⟨rfl, rfl, rfl, rfl, rfl, rfl, trivial⟩ rfl ⟨Nat.zero_le _, BS, OwnO.nil, X26⟩ ?_
  rintro ⟨i, fv, wi⟩ J ⟨hi, hB, hO, hX⟩ again
  simp only at hi hB hO hX
  change G _ [(6, .slice a42 rs.length c42), (7, .pointer (some ⟨w42.heap.size, 0, none⟩)), (24, i64 (i : Nat)), (138, .slice a42 rs.length c42), (139, i64 rs.length), (140, i64 (i : Nat))] _ _ wi
  refine .seq (.region ?_)
  refine .p rfl rfl (.lt rfl rfl) ?_
  refine .nil (.code (.seq ?_))
  refine .condD rfl (fun c141 => ?_) (fun c141 => ?_)
  · have hi1 : i < rs.length := by omega
    obtain ⟨b0, o0, ea, hb0, hcs, hrl⟩ := Sl.strAt (tStrs.ext R42' hX (fun k hk _ h => by have hk : k < w42.heap.size := hk; have h : w42.heap.size ≤ k := h; omega)) hi1
    refine .skip (.code (.seq (.block (.seq (.keep [(6, _), (7, _), (24, _), (138, _), (139, _), (140, _)] ⟨rfl, rfl, rfl, rfl, rfl, rfl, trivial⟩ (.region ?_))))))
    refine .p rfl rfl (.mv rfl) ?_
    refine .p rfl rfl (.indexAddr1 (by show _ = some (Value.slice (some ⟨b0, o0, none⟩) rs.length c42); rw [← ea]; rfl) rfl rfl rfl (by omega)) ?_
    refine .p rfl rfl (.load rfl rfl rfl hcs) ?_
    refine .p rfl rfl (.as rfl) ?_
    refine .p rfl rfl (.as rfl) ?_
    refine .nil (.code (.seq (.keep [(26, _), (25, _), (6, _), (7, _), (24, _), (138, _), (139, _), (140, _)] ⟨rfl, rfl, rfl, rfl, rfl, rfl, rfl, rfl, trivial⟩ (.region ?_))))
    refine .p rfl rfl (.mv rfl) ?_
    refine .call (first := []) (captured := []) rfl rfl rfl rfl (TRead_fn hrl) ?_
    rintro _ w147 ⟨v147, rfl, G147, X147⟩
    have z147 := X147.size
    have hok' := hok i hi1
    rw [hok'] at G147 ⊢
    generalize hL : ls.getD i [] = L at G147 hok' ⊢
    obtain ⟨a147, c147, rfl, hc147⟩ := OwnO.val G147
    have B147 := hB.ext X147 (fun x => x)
    have RL : (Sl tChange).rep (fun k => wi.heap.size ≤ k ∧ k < w147.heap.size) w147 (.slice a147 L.length c147) L := (Sl tChange).mono (OwnO.rep G147 (R := fun k => wi.heap.size ≤ k) (fun k hk _ => hk) (fun _ h _ => h.elim)) (fun k hk hl => ⟨hk, hl⟩)
    have hLl := Sl.lim RL
    simp only [Lim] at hLl
    refine .p rfl rfl (.mv rfl) ?_
    refine .p rfl rfl (.extract rfl rfl) ?_
    refine .p rfl rfl (.extract rfl rfl) ?_
    refine .p rfl rfl (.extract rfl rfl) ?_
    refine .p rfl rfl (.as rfl) ?_
    refine .p rfl rfl (.as rfl) ?_
    refine .p rfl rfl (.as rfl) ?_
    refine .nil (.code (.seq (.seq (.keep [(29, _), (28, _), (27, _), (25, _), (6, _), (7, _), (24, _), (138, _), (139, _), (140, _)] ⟨rfl, rfl, rfl, rfl, rfl, rfl, rfl, rfl, rfl, rfl, trivial⟩ ?_))))
    refine .meet (S := Unit) (fun s => [(6, .slice a42 rs.length c42), (7, .pointer (some ⟨w42.heap.size, 0, none⟩)), (27, .slice a147 L.length c147), (28, i64 ((i + 1 : Nat) : Int)), (138, .slice a42 rs.length c42), (139, i64 rs.length), (140, i64 (i : Nat)), (162, .bool false)]) (fun s => w147) (fun s => True) ?_ ?_
    · rintro ⟨⟩ _
      change A _ [(6, .slice a42 rs.length c42), (7, .pointer (some ⟨w42.heap.size, 0, none⟩)), (27, .slice a147 L.length c147), (28, i64 ((i + 1 : Nat) : Int)), (138, .slice a42 rs.length c42), (139, i64 rs.length), (140, i64 (i : Nat)), (162, .bool false)] _ w147
      refine .code (.condF rfl (.skip (.code (.seq (.seq (.keep [(6, _), (7, _), (27, _), (28, _), (138, _), (139, _), (140, _)] ⟨rfl, rfl, rfl, rfl, rfl, rfl, rfl, trivial⟩ (.region ?_)))))))
      refine .p rfl rfl (.mv rfl) ?_
      refine .p rfl rfl (.as rfl) ?_
      refine .nil (.code (.seq (.keep [(24, _), (6, _), (7, _), (27, _), (28, _), (138, _), (139, _), (140, _)] ⟨rfl, rfl, rfl, rfl, rfl, rfl, rfl, rfl, trivial⟩ (.region ?_))))
      refine .p rfl rfl (.mv rfl) ?_
      refine .p rfl rfl (.mv rfl) ?_
      refine .p rfl rfl (.nilCheck rfl) ?_
      refine .p rfl rfl (.fieldAddr rfl rfl rfl rfl) ?_
      refine .p rfl rfl (.load rfl rfl rfl (B147.cell 6)) ?_
      refine .p rfl rfl (.no (.le rfl rfl) (by omega)) ?_
      refine .nil (.code (.keep [(169, _), (24, _), (6, _), (7, _), (27, _), (28, _), (138, _), (139, _), (140, _)] ⟨rfl, rfl, rfl, rfl, rfl, rfl, rfl, rfl, rfl, trivial⟩ (.condF rfl (.skip (.code (.seq (.seq (.keep [(24, _), (6, _), (7, _), (27, _), (28, _), (138, _), (139, _), (140, _)] ⟨rfl, rfl, rfl, rfl, rfl, rfl, rfl, rfl, trivial⟩ (.region ?_)))))))))
      refine .p rfl rfl (.mv rfl) ?_
      refine .p rfl rfl (.mv rfl) ?_
      refine .p rfl rfl (.nilCheck rfl) ?_
      refine .p rfl rfl (.fieldAddr rfl rfl rfl rfl) ?_
      refine .p rfl rfl (.load rfl rfl rfl (B147.cell 7)) ?_
      refine .p rfl rfl (.add rfl rfl (by omega)) ?_
      refine .p rfl rfl (.no (.ne rfl rfl) (fun h => h (by show ((i + 1 : Nat) : Int) = (i : Int) + 1; omega))) ?_
      refine .nil (.code (.keep [(176, _), (24, _), (6, _), (7, _), (27, _), (28, _), (138, _), (139, _), (140, _)] ⟨rfl, rfl, rfl, rfl, rfl, rfl, rfl, rfl, rfl, trivial⟩ (.condF rfl (.skip (.code (.seq (.keep [(24, _), (6, _), (7, _), (27, _), (28, _), (138, _), (139, _), (140, _)] ⟨rfl, rfl, rfl, rfl, rfl, rfl, rfl, rfl, trivial⟩ (.region ?_))))))))
      refine .p rfl rfl (.mv rfl) ?_
      refine .p rfl rfl (.mv rfl) ?_
      refine .p rfl rfl (.nilCheck rfl) ?_
      refine .p rfl rfl (.fieldAddr rfl rfl rfl rfl) ?_
      refine .s rfl (.store rfl rfl rfl rfl rfl B147 (by simp)) ?_
      intro w38 P38
      have z38 := P38.size
      have B38 : Blk w38 w42.heap.size 83 [i64 d.count, .slice a1 d.data.length k1, .slice a2 d.waits.length k2, .slice none 0 0, fv, i64 rs.length, i64 0, i64 ((i + 1 : Nat) : Int)] := P38.blk
      refine .nil (.code (.seq (.keep [(24, _), (6, _), (7, _), (27, _), (28, _), (138, _), (139, _), (140, _)] ⟨rfl, rfl, rfl, rfl, rfl, rfl, rfl, rfl, trivial⟩ (.region ?_))))
      refine .p rfl rfl (.mv rfl) ?_
      refine .p rfl rfl (.len rfl rfl) ?_
      refine .p rfl rfl (.mv rfl) ?_
      refine .nil (.code (.block (.keep [(183, _), (182, _), (181, _), (24, _), (6, _), (7, _), (28, _), (138, _), (139, _), (140, _)] ⟨rfl, rfl, rfl, rfl, rfl, rfl, rfl, rfl, rfl, rfl, trivial⟩ ?_)))
      refine .loop (S := Nat × Value × World) (fun s => [(6, .slice a42 rs.length c42), (7, .pointer (some ⟨w42.heap.size, 0, none⟩)), (24, i64 ((i + 1 : Nat) : Int)), (28, i64 ((i + 1 : Nat) : Int)), (138, .slice a42 rs.length c42), (139, i64 rs.length), (140, i64 (i : Nat)), (181, .slice a147 L.length c147), (182, i64 L.length), (183, i64 (s.1 : Nat))]) (fun s => s.2.2) (fun s => s.1 ≤ L.length ∧ Blk s.2.2 w42.heap.size 83 [i64 d.count, .slice a1 d.data.length k1, .slice a2 d.waits.length k2, .slice none 0 0, s.2.1, i64 rs.length, i64 0, i64 ((i + 1 : Nat) : Int)] ∧ OwnO tEntry (fun _ => False) 85 s.2.2 s.2.1 (entsTo ls i ++ (L.take s.1).map (entC (i + 1))) (fun k => (w42.heap.size < k ∧ k < wi.heap.size) ∨ w147.heap.size ≤ k) ∧ Ext (fun k => k = w42.heap.size ∨ (w42.heap.size < k ∧ k < wi.heap.size) ∨ w147.heap.size ≤ k) w147 s.2.2) (fun s => L.length - s.1) (0, fv, w38) ⟨rfl, rfl, rfl, rfl, rfl, rfl, rfl, rfl, rfl, rfl, trivial⟩ rfl ⟨Nat.zero_le _, B38, (by rw [List.take_zero, List.map_nil, List.append_nil]; exact OwnO.mono (OwnO.ext (OwnO.ext0 (OwnO.mono hO (fun _ h _ => h) (B' := fun k => w42.heap.size < k ∧ k < wi.heap.size) (fun k h hl => ⟨h, hl⟩)) X147) P38.ext (fun k hk _ he => by have he : k = w42.heap.size := he; omega) (fun _ h _ => h.elim)) (fun _ h _ => h) (fun k h _ => .inl h)), P38.ext.mono (fun k _ h => .inl h)⟩ ?_
      rintro ⟨m, fm, wj⟩ J2 ⟨hm, hBj, hOj, hXj⟩ again2
      simp only at hm hBj hOj hXj
      change G _ [(6, .slice a42 rs.length c42), (7, .pointer (some ⟨w42.heap.size, 0, none⟩)), (24, i64 ((i + 1 : Nat) : Int)), (28, i64 ((i + 1 : Nat) : Int)), (138, .slice a42 rs.length c42), (139, i64 rs.length), (140, i64 (i : Nat)), (181, .slice a147 L.length c147), (182, i64 L.length), (183, i64 (m : Nat))] _ _ wj
      refine .seq (.region ?_)
      refine .p rfl rfl (.lt rfl rfl) ?_
      refine .nil (.code (.seq ?_))
      refine .condD rfl (fun c184 => ?_) (fun c184 => ?_)
      · have hm1 : m < L.length := by omega
        have hcap : (entsTo ls i ++ (L.take m).map (entC (i + 1))).length ≤ 12 := by
          have h1 := ents_le ls (k := i + 1) (n := rs.length) hi1
          rw [entsTo, hL, List.length_append, List.length_map] at h1
          rw [List.length_append, List.length_map, List.length_take]
          omega
        obtain ⟨bc, oc, qc, uc, ec, hbc, hcc, hrc⟩ := Sl.at ((Sl tChange).ext RL hXj (fun k hk _ h => by have h1 : wi.heap.size ≤ k ∧ k < w147.heap.size := hk; have h : k = w42.heap.size ∨ (w42.heap.size < k ∧ k < wi.heap.size) ∨ w147.heap.size ≤ k := h; have := hB.lt; omega)) (List.getElem?_eq_getElem hm1)
        cases ec
        obtain ⟨rfl, q1, q2⟩ := tChange.val hrc
        refine .skip (.code (.seq (.block (.seq (.keep [(6, _), (7, _), (24, _), (28, _), (138, _), (139, _), (140, _), (181, _), (182, _), (183, _)] ⟨rfl, rfl, rfl, rfl, rfl, rfl, rfl, rfl, rfl, rfl, trivial⟩ (.region ?_))))))
        refine .p rfl rfl (.indexAddr (s := 3) rfl rfl rfl rfl (by omega)) ?_
        refine .p rfl rfl (.loadA (n := 3) rfl rfl rfl rfl rfl hcc) ?_
        refine .v rfl rfl (.alloc rfl rfl) ?_
        rintro _ wn31 ⟨rfl, N31⟩
        refine .s rfl (.storeAll (n := 3) rfl rfl rfl rfl rfl N31.blk rfl) ?_
        intro w41 P31
        have Y31 := N31.ext.then P31.ext (by rintro k rfl _; exact Nat.le_refl _)
        have zy31 := Y31.size
        have B31 := P31.blk
        clear P31 N31
        have hl31 := B31.lt
        have hlB := hB.lt
        have hszj := hXj.size
        have BA := hBj.ext Y31 (fun x => x)
        have OA : OwnO tEntry (fun _ => False) 85 w41 fm (entsTo ls i ++ (L.take m).map (entC (i + 1))) (fun k => ((w42.heap.size < k ∧ k < wi.heap.size) ∨ w147.heap.size ≤ k) ∧ k < wj.heap.size ∨ w41.heap.size ≤ k) := OwnO.mono (OwnO.ext0 (OwnO.mono hOj (fun _ h _ => h) (B' := fun k => ((w42.heap.size < k ∧ k < wi.heap.size) ∨ w147.heap.size ≤ k) ∧ k < wj.heap.size) (fun k h hl => ⟨h, hl⟩)) Y31) (fun _ h _ => h) (fun k h _ => .inl h)
        have hn1 : ¬ (((w42.heap.size < w42.heap.size ∧ w42.heap.size < wi.heap.size) ∨ w147.heap.size ≤ w42.heap.size) ∧ w42.heap.size < wj.heap.size ∨ w41.heap.size ≤ w42.heap.size) := by omega
        have hn2 : ¬ (((w42.heap.size < wj.heap.size ∧ wj.heap.size < wi.heap.size) ∨ w147.heap.size ≤ wj.heap.size) ∧ wj.heap.size < wj.heap.size ∨ w41.heap.size ≤ wj.heap.size) := by omega
        refine .nil (.code (.keep [(31, _), (6, _), (7, _), (24, _), (28, _), (138, _), (139, _), (140, _), (181, _), (182, _), (183, _)] ⟨rfl, rfl, rfl, rfl, rfl, rfl, rfl, rfl, rfl, rfl, rfl, trivial⟩ (.mix (fun k => ((w42.heap.size < k ∧ k < wi.heap.size) ∨ w147.heap.size ≤ k) ∧ k < wj.heap.size ∨ w41.heap.size ≤ k) [13, 14, 17] (by kernel_rfl) (by kernel_rfl) (by kernel_rfl) ?_)))
        refine .p rfl rfl rfl (fun wx hx => .mv rfl) ?_
        refine .p rfl rfl rfl (fun wx hx => .mv rfl) ?_
        refine .p rfl rfl rfl (fun wx hx => .nilCheck rfl) ?_
        refine .p rfl rfl rfl (fun wx hx => .fieldAddr rfl rfl rfl rfl) ?_
        refine .p rfl rfl rfl (fun wx hx => .load rfl rfl rfl ((BA.ext hx hn1).cell 4)) ?_
        refine .p rfl rfl rfl (fun wx hx => .fieldAddr rfl rfl rfl rfl) ?_
        refine .p rfl rfl rfl (fun wx hx => .load rfl rfl rfl ((B31.ext hx hn2).cell 0)) ?_
        refine .p rfl rfl rfl (fun wx hx => .fieldAddr rfl rfl rfl rfl) ?_
        refine .p rfl rfl rfl (fun wx hx => .load rfl rfl rfl ((B31.ext hx hn2).cell 1)) ?_
        refine .p rfl rfl rfl (fun wx hx => .mv rfl) ?_
        refine .p rfl rfl rfl (fun wx hx => .fieldAddr rfl rfl rfl rfl) ?_
        refine .p rfl rfl rfl (fun wx hx => .load rfl rfl rfl ((B31.ext hx hn2).cell 2)) ?_
        refine .p rfl rfl rfl (fun wx hx => .build (cs := [str L[m].key, str L[m].value, i64 ((i + 1 : Nat) : Int), .bool L[m].gone]) rfl (fun _ => by kernel_rfl)) ?_
        refine .v rfl rfl rfl (.lits rfl rfl (fun _ => by kernel_rfl)) (by rintro _ _ ⟨_, hN⟩; exact hN.ext0) ?_
        rintro _ w200 ⟨rfl, N200⟩
        have z200 := N200.size
        refine .v rfl rfl rfl (.appendLo (t := tEntry) (Q := fun _ => False) (eb := 48) rfl (OwnO.ext0 OA N200.ext) (fun k hk => .inr (by omega)) rfl (.inr (New.holds (t := tEntry) (us := [_]) (xs := [entC (i + 1) L[m]]) N200 (.cons (tEntry.mk (x := entC (i + 1) L[m]) q1 q2 (by show (-9223372036854775808 : Int) ≤ ((i + 1 : Nat) : Int) ∧ ((i + 1 : Nat) : Int) ≤ 9223372036854775807; omega)) .nil) rfl)) rfl rfl rfl rfl rfl rfl rfl (by simp at hcap ⊢; omega) (by simp [Lim] at hcap ⊢; omega) (fun _ h _ => h.elim)) (by rintro _ _ ⟨_, hx⟩; exact N200.ext0.trans hx) ?_
        rintro r201 w201 ⟨O201, Y201⟩
        have z201 := Y201.size
        obtain ⟨a201, c201, rfl, _⟩ := OwnO.val O201
        refine .p rfl rfl rfl (fun wx hx => .nilCheck rfl) ?_
        refine .p rfl rfl rfl (fun wx hx => .fieldAddr rfl rfl rfl rfl) ?_
        refine .sL rfl rfl (.store rfl rfl rfl rfl rfl (((BA.ext N200.ext (fun x => x)).ext Y201 hn1)) (by simp)) (by kernel_rfl) ?_
        intro w17 P17
        have z17 := P17.size
        refine .nil (.blk (.code (.keep [(6, _), (7, _), (24, _), (28, _), (138, _), (139, _), (140, _), (181, _), (182, _), (183, _)] ⟨rfl, rfl, rfl, rfl, rfl, rfl, rfl, rfl, rfl, rfl, trivial⟩ (.region ?_))))
        refine .p rfl rfl (.add rfl rfl (by omega)) ?_
        refine .p rfl rfl (.mv rfl) ?_
        refine .nil ?_
        exact (again2 (m + 1, _, w17) ⟨by show m + 1 ≤ _; omega, P17.blk, (by rw [List.take_succ_eq_append_getElem hm1, List.map_append, ← List.append_assoc]; exact OwnO.mono (OwnO.ext O201 P17.ext (fun k hk _ he => by have he : k = w42.heap.size := he; subst he; exact hn1 hk) (fun _ h _ => h.elim)) (fun _ h _ => h) (fun k h _ => by have h : ((w42.heap.size < k ∧ k < wi.heap.size) ∨ w147.heap.size ≤ k) ∧ k < wj.heap.size ∨ w41.heap.size ≤ k := h; show (w42.heap.size < k ∧ k < wi.heap.size) ∨ w147.heap.size ≤ k; omega)), hXj.trans ((Y31.trans N200.ext).mono (fun _ _ h => h.elim) |>.trans ((Y201.mono (fun k _ h => by have h : ((w42.heap.size < k ∧ k < wi.heap.size) ∨ w147.heap.size ≤ k) ∧ k < wj.heap.size ∨ w41.heap.size ≤ k := h; show k = w42.heap.size ∨ (w42.heap.size < k ∧ k < wi.heap.size) ∨ w147.heap.size ≤ k; omega)).trans (P17.ext.mono (fun k _ h => .inl h))))⟩ (by show _ - (m + 1) < _ - m; omega)).of ⟨rfl, rfl, rfl, rfl, rfl, rfl, rfl, rfl, rfl, rfl, trivial⟩
      · refine .exit rfl (.blk (.code (.keep [(6, _), (7, _), (24, _), (138, _), (139, _), (140, _)] ⟨rfl, rfl, rfl, rfl, rfl, rfl, trivial⟩ (.region ?_))))
        refine .p rfl rfl (.add rfl rfl (by omega)) ?_
        refine .p rfl rfl (.mv rfl) ?_
        refine .nil ?_
        obtain rfl : m = L.length := by omega
        rw [List.take_length] at hOj
        have hlB := hB.lt
        exact (again (i + 1, fm, wj) ⟨by show i + 1 ≤ _; omega, hBj, (by rw [entsTo, hL]; exact OwnO.mono hOj (fun _ h _ => h) (fun k h _ => by have h : (w42.heap.size < k ∧ k < wi.heap.size) ∨ w147.heap.size ≤ k := h; show w42.heap.size < k; omega)), hX.trans ((X147.mono (fun _ _ h => h.elim)).trans ((P38.ext.mono (by rintro k _ rfl; exact Nat.le_refl _)).trans (Ext.refl _) |> fun _ => hXj.mono (fun k _ h => by have h : k = w42.heap.size ∨ (w42.heap.size < k ∧ k < wi.heap.size) ∨ w147.heap.size ≤ k := h; show w42.heap.size ≤ k; omega)))⟩ (by show _ - (i + 1) < _ - i; omega)).of ⟨rfl, rfl, rfl, rfl, rfl, rfl, trivial⟩
    · intro meet
      refine .region ?_
      refine .p rfl rfl (.mv rfl) ?_
      refine .p rfl rfl (.no (.ne rfl rfl) (fun h => h rfl)) ?_
      refine .p rfl rfl (.mv rfl) ?_
      refine .p rfl rfl (.mv rfl) ?_
      refine .p rfl rfl (.gt rfl rfl) ?_
      refine .p rfl rfl (.mv rfl) ?_
      refine .caseD 156 rfl (fun c156 => ?_) (fun c156 => ?_)
      · refine .p rfl rfl (.mv rfl) ?_
        refine .p rfl rfl (.mv rfl) ?_
        refine .p rfl rfl (.add rfl rfl (by omega)) ?_
        refine .p rfl rfl (.no (.ne rfl rfl) (fun h => h (by show ((i + 1 : Nat) : Int) = (i : Int) + 1; omega))) ?_
        refine .p rfl rfl (.pickT rfl rfl) ?_
        refine .p rfl rfl (.pickF rfl rfl) ?_
        refine .nil ?_
        exact (meet () trivial).of ⟨rfl, rfl, rfl, rfl, rfl, rfl, rfl, rfl, trivial⟩
      · refine .skip rfl rfl ?_
        refine .skip rfl rfl ?_
        refine .skip rfl rfl ?_
        refine .skip rfl rfl ?_
        refine .p rfl rfl (.pickF rfl rfl) ?_
        refine .p rfl rfl (.pickF rfl rfl) ?_
        refine .nil ?_
        exact (meet () trivial).of ⟨rfl, rfl, rfl, rfl, rfl, rfl, rfl, rfl, trivial⟩
  · refine .exit rfl (.code (.seq (.seq (.keep [(6, _), (7, _), (24, _)] ⟨rfl, rfl, rfl, trivial⟩ (.region ?_)))))
    refine .p rfl rfl (.mv rfl) ?_
    refine .p rfl rfl (.len rfl rfl) ?_
    refine .p rfl rfl (.gt rfl rfl) ?_
    refine .p rfl rfl (.mv rfl) ?_
    refine .caseD 209 rfl (fun c209 => ?_) (fun c209 => ?_)
    · refine .p rfl rfl (.mv rfl) ?_
      refine .p rfl rfl (.mv rfl) ?_
      refine .p rfl rfl (.nilCheck rfl) ?_
      refine .p rfl rfl (.fieldAddr rfl rfl rfl rfl) ?_
      refine .p rfl rfl (.load rfl rfl rfl (hB.cell 6)) ?_
      refine .p rfl rfl (.no (.lt rfl rfl) (by omega)) ?_
      refine .p rfl rfl (.pickT rfl rfl) ?_
      refine .nil (.code (.keep [(216, _), (7, _)] ⟨rfl, rfl, trivial⟩ (.condF rfl (.skip (.code (.seq (.keep [(7, _)] ⟨rfl, trivial⟩ (.region ?_))))))))
      refine .p rfl rfl (.mv rfl) ?_
      refine .p rfl rfl (.nilCheck rfl) ?_
      refine .p rfl rfl (.fieldAddr rfl rfl rfl rfl) ?_
      refine .p rfl rfl (.load rfl rfl rfl (hB.cell 4)) ?_
      refine .call (first := []) (captured := []) rfl rfl rfl rfl (SortO_fn hO (fun _ h => h.elim) (by have := hi; rw [show i = rs.length by omega]; exact h12)) ?_
      rintro _ w221 ⟨rfl, ⟨es, he1, he2, hOe⟩, X221⟩
      refine .nil (.code (.seq (.keep [(7, _)] ⟨rfl, trivial⟩ (.region ?_))))
      refine .p rfl rfl (.mv rfl) ?_
      refine .p rfl rfl (.as rfl) ?_
      refine .p rfl rfl (.as rfl) ?_
      refine .nil (.code ?_)
      refine .ret _ rfl ?_
      obtain rfl : i = rs.length := by omega
      exact ⟨_, fv, es, rfl, ⟨_, _, _, _, hB.ext X221 (fun h => Nat.lt_irrefl _ h)⟩, OwnO.rep hOe (R := All) (fun _ _ _ => trivial) (fun _ _ _ => trivial), he1, he2, (X1.trans (X34.trans X42)).then (hX.trans (X221.mono (fun k _ h => Nat.le_of_lt h))) (fun k hk _ => by have hk : w42.heap.size ≤ k := hk; omega)⟩
    · refine .skip rfl rfl ?_
      refine .skip rfl rfl ?_
      refine .skip rfl rfl ?_
      refine .skip rfl rfl ?_
      refine .skip rfl rfl ?_
      refine .skip rfl rfl ?_
      refine .p rfl rfl (.pickF rfl rfl) ?_
      refine .nil (.code (.keep [(216, _), (7, _)] ⟨rfl, rfl, trivial⟩ (.condF rfl (.skip (.code (.seq (.keep [(7, _)] ⟨rfl, trivial⟩ (.region ?_))))))))
      refine .p rfl rfl (.mv rfl) ?_
      refine .p rfl rfl (.nilCheck rfl) ?_
      refine .p rfl rfl (.fieldAddr rfl rfl rfl rfl) ?_
      refine .p rfl rfl (.load rfl rfl rfl (hB.cell 4)) ?_
      refine .call (first := []) (captured := []) rfl rfl rfl rfl (SortO_fn hO (fun _ h => h.elim) (by have := hi; rw [show i = rs.length by omega]; exact h12)) ?_
      rintro _ w221 ⟨rfl, ⟨es, he1, he2, hOe⟩, X221⟩
      refine .nil (.code (.seq (.keep [(7, _)] ⟨rfl, trivial⟩ (.region ?_))))
      refine .p rfl rfl (.mv rfl) ?_
      refine .p rfl rfl (.as rfl) ?_
      refine .p rfl rfl (.as rfl) ?_
      refine .nil (.code ?_)
      refine .ret _ rfl ?_
      obtain rfl : i = rs.length := by omega
      exact ⟨_, fv, es, rfl, ⟨_, _, _, _, hB.ext X221 (fun h => Nat.lt_irrefl _ h)⟩, OwnO.rep hOe (R := All) (fun _ _ _ => trivial) (fun _ _ _ => trivial), he1, he2, (X1.trans (X34.trans X42)).then (hX.trans (X221.mono (fun k _ h => Nat.le_of_lt h))) (fun k hk _ => by have hk : w42.heap.size ≤ k := hk; omega)⟩
end Go.Proofs.YthliepcjfnjnoaaGreatDoor
namespace Go.Proofs.YthliepcjfnjnoaaGreatDoor
open Go page tree
namespace tree
def getT (es : List Entry) (n : Nat) (key : Bs) (seq : Int) : Bs × Bool × Int :=
  if key = [] ∨ 256 < key.length then ([], false, 60) else if seq < 0 ∨ (n : Int) < seq then ([], false, 2) else
  if (newT es key seq).2 = true ∧ (newT es key seq).1.gone = false then ((newT es key seq).1.value, true, 0) else ([], false, 0)
end tree
theorem tOpen_fn {w : World} {v : Value} {d : disk.Disk} {rs : List Bs} {ls : List (List Change)} (h : disk.tDisk.rep All w v d) (hg : files.GOK w) (hnm : files.namesF d = ([], 0)) (hst : (log.stateF d).2 = 0) (hrs : (log.stateF d).1.recs = rs) (hok : RecsOK rs ls) (h12 : (entsTo ls rs.length).length ≤ 12) (h63 : rs.length ≤ 63) : Fn Tryz.prog 34 [v] w (fun r w2 => r = .tuple #[i64 rs.length, i64 0] ∧ Ext (fun _ => False) w w2) := by
  obtain ⟨a1, k1, a2, k2, rfl⟩ := shapeD h
  refine Fn.enter (fun w => Tryz.call34 _ w) Tryz.func34 rfl ?_
  refine .seq (.region ?_)
  refine .v rfl rfl (.box rfl) ?_
  rintro _ w1 ⟨rfl, N1⟩
  have B1 := N1.blk
  have X1 := N1.ext
  have z1 := N1.size
  refine .p rfl rfl (.as rfl) ?_
  refine .p rfl rfl (.as rfl) ?_
  refine .nil (.code (.seq (.keep [(1, _)] ⟨rfl, trivial⟩ (.region ?_))))
  refine .p rfl rfl (.loadA (n := 3) rfl rfl rfl rfl rfl (B1.ext (S := fun _ => False) (by repeat (first | exact Ext.refl _ | assumption | refine Ext.trans (by assumption) ?_)) (fun x => x)).cells) ?_
  refine .call (first := []) (captured := []) rfl rfl rfl rfl (read_fn (disk.tDisk.ext0 h (by repeat (first | exact Ext.refl _ | assumption | refine Ext.trans (by assumption) ?_))) (hg.ext0 (by repeat (first | exact Ext.refl _ | assumption | refine Ext.trans (by assumption) ?_))) hnm hst hrs hok h12 h63) ?_
  rintro _ w8 ⟨b, sv, es, rfl, hS, hE, he1, he2, X8⟩
  have z8 := X8.size
  obtain ⟨x1, x2, x3, x4, hB8⟩ := hS
  refine .p rfl rfl (.mv rfl) ?_
  refine .p rfl rfl (.extract rfl rfl) ?_
  refine .p rfl rfl (.extract rfl rfl) ?_
  refine .p rfl rfl (.as rfl) ?_
  refine .p rfl rfl (.as rfl) ?_
  refine .nil (.code (.seq (.seq (.keep [(5, _), (4, _)] ⟨rfl, rfl, trivial⟩ (.region ?_)))))
  refine .p rfl rfl (.mv rfl) ?_
  refine .p rfl rfl (.no (.ne rfl rfl) (fun h => h rfl)) ?_
  refine .nil (.code (.keep [(12, _), (5, _), (4, _)] ⟨rfl, rfl, rfl, trivial⟩ (.condF rfl (.skip (.code (.seq (.keep [(4, _)] ⟨rfl, trivial⟩ (.region ?_))))))))
  refine .p rfl rfl (.mv rfl) ?_
  refine .p rfl rfl (.nilCheck rfl) ?_
  refine .p rfl rfl (.fieldAddr rfl rfl rfl rfl) ?_
  refine .p rfl rfl (.load rfl rfl rfl (hB8.cell 7)) ?_
  refine .p rfl rfl (.as rfl) ?_
  refine .p rfl rfl (.as rfl) ?_
  refine .nil (.code ?_)
  refine .ret _ rfl ?_
  exact ⟨rfl, (by repeat (first | exact Ext.refl _ | assumption | refine Ext.trans (by assumption) ?_))⟩
theorem tGet_fn {w : World} {v : Value} {d : disk.Disk} {rs : List Bs} {ls : List (List Change)} {key : Bs} {seq : Int} (h : disk.tDisk.rep All w v d) (hg : files.GOK w) (hnm : files.namesF d = ([], 0)) (hst : (log.stateF d).2 = 0) (hrs : (log.stateF d).1.recs = rs) (hok : RecsOK rs ls) (h12 : (entsTo ls rs.length).length ≤ 12) (h63 : rs.length ≤ 63) (hk : key.length < Lim) (hq : -9223372036854775808 ≤ seq ∧ seq ≤ 9223372036854775807) : Fn Tryz.prog 22 [v, str key, i64 seq] w (fun r w2 => (∃ es, es.Perm (entsTo ls rs.length) ∧ es.Pairwise gtE ∧ r = .tuple #[str (getT es rs.length key seq).1, .bool (getT es rs.length key seq).2.1, i64 (getT es rs.length key seq).2.2]) ∧ Ext (fun _ => False) w w2) := by
  obtain ⟨a1, k1, a2, k2, rfl⟩ := shapeD h
  refine Fn.enter (fun w => Tryz.call22 _ w) Tryz.func22 rfl ?_
  refine .seq (.region ?_)
  refine .v rfl rfl (.box rfl) ?_
  rintro _ w3 ⟨rfl, N3⟩
  have B3 := N3.blk
  have X3 := N3.ext
  have z3 := N3.size
  refine .p rfl rfl (.as rfl) ?_
  refine .p rfl rfl (.as rfl) ?_
  refine .p rfl rfl (.as rfl) ?_
  refine .nil (.code (.seq (.keep [(3, _), (1, _), (2, _)] ⟨rfl, rfl, rfl, trivial⟩ (.region ?_))))
  refine .p rfl rfl (.loadA (n := 3) rfl rfl rfl rfl rfl (B3.ext (S := fun _ => False) (by repeat (first | exact Ext.refl _ | assumption | refine Ext.trans (by assumption) ?_)) (fun x => x)).cells) ?_
  refine .call (first := []) (captured := []) rfl rfl rfl rfl (read_fn (disk.tDisk.ext0 h (by repeat (first | exact Ext.refl _ | assumption | refine Ext.trans (by assumption) ?_))) (hg.ext0 (by repeat (first | exact Ext.refl _ | assumption | refine Ext.trans (by assumption) ?_))) hnm hst hrs hok h12 h63) ?_
  rintro _ w15 ⟨b, sv, es, rfl, hS, hE, he1, he2, X15⟩
  have z15 := X15.size
  obtain ⟨x1, x2, x3, x4, hB15⟩ := id hS
  refine .p rfl rfl (.mv rfl) ?_
  refine .p rfl rfl (.extract rfl rfl) ?_
  refine .p rfl rfl (.extract rfl rfl) ?_
  refine .p rfl rfl (.as rfl) ?_
  refine .p rfl rfl (.as rfl) ?_
  refine .nil (.code (.seq (.block (.seq (.keep [(10, _), (9, _), (1, _), (2, _)] ⟨rfl, rfl, rfl, rfl, trivial⟩ (.region ?_))))))
  refine .p rfl rfl (.mv rfl) ?_
  refine .p rfl rfl (.no (.ne rfl rfl) (fun h => h rfl)) ?_
  refine .p rfl rfl (.as rfl) ?_
  refine .nil (.code (.keep [(18, _), (10, _), (9, _), (1, _), (2, _)] ⟨rfl, rfl, rfl, rfl, rfl, trivial⟩ (.condF rfl (.seq (.keep [(9, _), (1, _), (2, _)] ⟨rfl, rfl, rfl, trivial⟩ (.region ?_))))))
  refine .p rfl rfl (.mv rfl) ?_
  refine .p rfl rfl (.eqS rfl rfl) ?_
  refine .p rfl rfl (.mv rfl) ?_
  refine .caseD 25 rfl (fun c25 => ?_) (fun c25 => ?_)
  · refine .skip rfl rfl ?_
    refine .skip rfl rfl ?_
    refine .skip rfl rfl ?_
    refine .p rfl rfl (.pickT rfl rfl) ?_
    refine .p rfl rfl (.as rfl) ?_
    refine .nil (.code (.keep [(22, _), (9, _), (1, _), (2, _)] ⟨rfl, rfl, rfl, rfl, trivial⟩ (.condT rfl (.seq (.keep [] trivial (.region ?_))))))
    refine .p rfl rfl (.as rfl) ?_
    refine .p rfl rfl (.as rfl) ?_
    refine .p rfl rfl (.as rfl) ?_
    refine .nil (.code ?_)
    refine .ret _ rfl ?_
    exact ⟨⟨es, he1, he2, by unfold getT; rw [if_pos (by first | exact .inl (by assumption) | exact .inr (by omega))]; rfl⟩, (by repeat (first | exact Ext.refl _ | assumption | refine Ext.trans (by assumption) ?_))⟩
  · refine .p rfl rfl (.mv rfl) ?_
    refine .p rfl rfl (.lenS rfl rfl) ?_
    refine .p rfl rfl (.gt rfl rfl) ?_
    refine .p rfl rfl (.pickF rfl rfl) ?_
    refine .p rfl rfl (.as rfl) ?_
    refine .nil (.code (.keep [(22, _), (9, _), (1, _), (2, _)] ⟨rfl, rfl, rfl, rfl, trivial⟩ ?_))
    refine .condD rfl (fun c22 => ?_) (fun c22 => ?_)
    · refine .seq (.keep [] trivial (.region ?_))
      refine .p rfl rfl (.as rfl) ?_
      refine .p rfl rfl (.as rfl) ?_
      refine .p rfl rfl (.as rfl) ?_
      refine .nil (.code ?_)
      refine .ret _ rfl ?_
      exact ⟨⟨es, he1, he2, by unfold getT; rw [if_pos (by first | exact .inl (by assumption) | exact .inr (by omega))]; rfl⟩, (by repeat (first | exact Ext.refl _ | assumption | refine Ext.trans (by assumption) ?_))⟩
    · refine .seq (.keep [(9, _), (1, _), (2, _)] ⟨rfl, rfl, rfl, trivial⟩ (.region ?_))
      refine .p rfl rfl (.mv rfl) ?_
      refine .p rfl rfl (.lt rfl rfl) ?_
      refine .p rfl rfl (.mv rfl) ?_
      refine .caseD 33 rfl (fun c33 => ?_) (fun c33 => ?_)
      · refine .skip rfl rfl ?_
        refine .skip rfl rfl ?_
        refine .skip rfl rfl ?_
        refine .skip rfl rfl ?_
        refine .skip rfl rfl ?_
        refine .skip rfl rfl ?_
        refine .p rfl rfl (.pickT rfl rfl) ?_
        refine .p rfl rfl (.as rfl) ?_
        refine .nil (.code (.keep [(30, _), (9, _), (1, _), (2, _)] ⟨rfl, rfl, rfl, rfl, trivial⟩ (.condT rfl (.seq (.keep [] trivial (.region ?_))))))
        refine .p rfl rfl (.as rfl) ?_
        refine .p rfl rfl (.as rfl) ?_
        refine .p rfl rfl (.as rfl) ?_
        refine .nil (.code ?_)
        refine .ret _ rfl ?_
        exact ⟨⟨es, he1, he2, by unfold getT; rw [if_neg (fun h => h.elim (by assumption) (by omega)), if_pos (by omega)]; rfl⟩, (by repeat (first | exact Ext.refl _ | assumption | refine Ext.trans (by assumption) ?_))⟩
      · refine .p rfl rfl (.mv rfl) ?_
        refine .p rfl rfl (.mv rfl) ?_
        refine .p rfl rfl (.nilCheck rfl) ?_
        refine .p rfl rfl (.fieldAddr rfl rfl rfl rfl) ?_
        refine .p rfl rfl (.load rfl rfl rfl (hB15.cell 7)) ?_
        refine .p rfl rfl (.gt rfl rfl) ?_
        refine .p rfl rfl (.pickF rfl rfl) ?_
        refine .p rfl rfl (.as rfl) ?_
        refine .nil (.code (.keep [(30, _), (9, _), (1, _), (2, _)] ⟨rfl, rfl, rfl, rfl, trivial⟩ ?_))
        refine .condD rfl (fun c30 => ?_) (fun c30 => ?_)
        · refine .seq (.keep [] trivial (.region ?_))
          refine .p rfl rfl (.as rfl) ?_
          refine .p rfl rfl (.as rfl) ?_
          refine .p rfl rfl (.as rfl) ?_
          refine .nil (.code ?_)
          refine .ret _ rfl ?_
          exact ⟨⟨es, he1, he2, by unfold getT; rw [if_neg (fun h => h.elim (by assumption) (by omega)), if_pos (by omega)]; rfl⟩, (by repeat (first | exact Ext.refl _ | assumption | refine Ext.trans (by assumption) ?_))⟩
        · refine .skip (.blk (.code (.seq (.keep [(9, _), (1, _), (2, _)] ⟨rfl, rfl, rfl, trivial⟩ (.region ?_)))))
          refine .p rfl rfl (.mv rfl) ?_
          refine .p rfl rfl (.mv rfl) ?_
          refine .p rfl rfl (.mv rfl) ?_
          refine .call (first := []) (captured := []) rfl rfl rfl rfl (newest_fn hS hE hk hq) ?_
          rintro _ w45 ⟨rfl, X45⟩
          have z45 := X45.size
          refine .p rfl rfl (.mv rfl) ?_
          refine .p rfl rfl (.extract rfl rfl) ?_
          refine .p rfl rfl (.extract rfl rfl) ?_
          refine .v rfl rfl (.alloc rfl rfl) ?_
          rintro _ wn11 ⟨rfl, N11⟩
          refine .s rfl (.storeAll (n := 4) rfl rfl rfl rfl rfl N11.blk rfl) ?_
          intro w11 P11
          have Y11 := N11.ext.then P11.ext (by rintro k rfl _; exact Nat.le_refl _)
          have zy11 := Y11.size
          have B11 := P11.blk
          clear P11 N11
          refine .p rfl rfl (.as rfl) ?_
          refine .nil (.code (.seq (.seq (.keep [(12, _), (11, _)] ⟨rfl, rfl, trivial⟩ (.region ?_)))))
          refine .p rfl rfl (.mv rfl) ?_
          refine .p rfl rfl (.not rfl) ?_
          refine .p rfl rfl (.mv rfl) ?_
          refine .case 50 rfl (fun c50 => ?_) (fun c50 => ?_)
          · refine .skip rfl rfl ?_
            refine .skip rfl rfl ?_
            refine .p rfl rfl (.pickT rfl rfl) ?_
            refine .nil (.code (.keep [(53, _), (11, _)] ⟨rfl, rfl, trivial⟩ (.condT rfl (.seq (.keep [] trivial (.region ?_))))))
            refine .p rfl rfl (.as rfl) ?_
            refine .p rfl rfl (.as rfl) ?_
            refine .p rfl rfl (.as rfl) ?_
            refine .nil (.code ?_)
            refine .ret _ rfl ?_
            exact ⟨⟨es, he1, he2, by unfold getT; rw [if_neg (fun h => h.elim (by assumption) (by omega)), if_neg (by omega), if_neg (fun h => by have := h.1; simp_all)]; rfl⟩, (by repeat (first | exact Ext.refl _ | assumption | refine Ext.trans (by assumption) ?_))⟩
          · refine .p rfl rfl (.fieldAddr rfl rfl rfl rfl) ?_
            refine .p rfl rfl (.load rfl rfl rfl (B11.cell 3)) ?_
            refine .p rfl rfl (.pickF rfl rfl) ?_
            refine .nil (.code (.keep [(53, _), (11, _)] ⟨rfl, rfl, trivial⟩ ?_))
            refine .cond rfl (fun c53 => ?_) (fun c53 => ?_)
            · refine .seq (.keep [] trivial (.region ?_))
              refine .p rfl rfl (.as rfl) ?_
              refine .p rfl rfl (.as rfl) ?_
              refine .p rfl rfl (.as rfl) ?_
              refine .nil (.code ?_)
              refine .ret _ rfl ?_
              exact ⟨⟨es, he1, he2, by unfold getT; rw [if_neg (fun h => h.elim (by assumption) (by omega)), if_neg (by omega), if_neg (fun h => by have := h.2; simp_all)]; rfl⟩, (by repeat (first | exact Ext.refl _ | assumption | refine Ext.trans (by assumption) ?_))⟩
            · refine .skip (.code (.seq (.keep [(11, _)] ⟨rfl, trivial⟩ (.region ?_))))
              refine .p rfl rfl (.fieldAddr rfl rfl rfl rfl) ?_
              refine .p rfl rfl (.load rfl rfl rfl (B11.cell 1)) ?_
              refine .p rfl rfl (.as rfl) ?_
              refine .p rfl rfl (.as rfl) ?_
              refine .p rfl rfl (.as rfl) ?_
              refine .nil (.code ?_)
              refine .ret _ rfl ?_
              exact ⟨⟨es, he1, he2, by unfold getT; rw [if_neg (fun h => h.elim (by assumption) (by omega)), if_neg (by omega), if_pos ⟨by simp_all, by simp_all⟩]; rfl⟩, (by repeat (first | exact Ext.refl _ | assumption | refine Ext.trans (by assumption) ?_))⟩
end Go.Proofs.YthliepcjfnjnoaaGreatDoor
namespace Go.Proofs.YthliepcjfnjnoaaGreatDoor
open Go disk
namespace tree
noncomputable def dirB : Bs := (files.writeF ⟨1, []⟩).1
theorem dirB_w : files.writeF ⟨1, []⟩ = (dirB, 0) := Prod.ext rfl files.write_1.1
theorem dirB_l : dirB.length = 1024 := files.write_1.2
def zeroS : Bs := List.replicate 128 0
structure TOK (d : Disk) (rs : List Bs) : Prop where
  ck : checkF d = 0
  ct : d.count = 200
  wt : d.waits = []
  lo : ∀ i, i < 8 → disk.readF d ((0 + i : Nat) : Int) = (dirB.drop (i * 128)).take 128
  hi : ∀ i, i < 8 → disk.readF d ((8 + i : Nat) : Int) = zeroS
  st : (log.stateF d).2 = 0
  ep : (log.stateF d).1.epoch = 1
  rc : (log.stateF d).1.recs = rs
  at' : (log.stateF d).1.at' = rs.length
  fr : ∀ q, rs.length ≤ q → q < 63 → log.sec d q = zeroS
theorem getTo_zero8 : getTo (zeroS.take 8) 8 = 0 := by decide
theorem TOK.mount {d : Disk} {rs : List Bs} (h : TOK d rs) : files.mountF d = (⟨1, []⟩, 0, 0) := by
  have hs : files.slotB d 0 = dirB := files.slot_new dirB_l (fun i hi => h.lo i hi)
  have hd : files.slotF d 0 = ⟨1, []⟩ := by unfold files.slotF; rw [hs, files.read_write dirB_w]
  have ho : files.slotOK d 0 := by
    refine ⟨by rw [hs, files.read_write dirB_w], ?_⟩
    rw [hd, h.ct]
    show room.checkR 200 [] = 0
    decide
  have hn : ¬ files.slotOK d 8 := fun h8 => by
    obtain ⟨h1, _, h3, _⟩ := files.slot_may h8
    have h5 := files.write_gen h1 (i := 0) (by omega)
    rw [files.slot_sec h.ck (by rw [h.ct]; decide) (by omega), h.hi 0 (by omega), getTo_zero8] at h5
    have := h3.1.1
    omega
  rw [files.mountF_0 h.ck (by rw [h.ct]; decide) ho (fun x => hn x.1), hd]
theorem TOK.names {d : Disk} {rs : List Bs} (h : TOK d rs) : files.namesF d = ([], 0) := by unfold files.namesF; rw [h.mount]; rfl
theorem state_same {x y : Disk} (hx : checkF x = 0) (hy : checkF y = 0) (hc : y.count = x.count) (h80 : 80 ≤ x.count) (h : ∀ n : Int, 0 ≤ n → n < x.count → disk.readF y n = disk.readF x n) : log.stateF y = log.stateF x := by
  have e1 : log.thereF y = log.thereF x := by rw [log.there_of hx h80, log.there_of hy (by rw [hc]; exact h80)]
  have e2 : log.headF y = log.headF x := log.headF_congr (h 16 (by omega) (by omega))
  have e3 : log.bodyTo y 63 = log.bodyTo x 63 := by
    rw [log.body_secs, log.body_secs]
    exact log.secs_congr (fun i hi => h _ (by omega) (by omega))
  have e4 : log.scanD y = log.scanD x := by rw [log.scanD_eq, log.scanD_eq, e2, e3]
  unfold log.stateF
  rw [e1, e2, e4]
theorem flushed {x : Disk} (hc : checkF x = 0) : ∃ y, doF x [⟨true, ⟨0, []⟩⟩] = (y, 0) ∧ checkF y = 0 ∧ y.count = x.count ∧ y.waits = [] ∧ ∀ n : Int, 0 ≤ n → n < x.count → disk.readF y n = disk.readF x n :=
  ⟨_, flush_ok hc, check_settle hc _, rfl, rfl, fun n h0 hn => by rw [readF_settle]; exact flush_read hc h0 hn⟩
theorem salt_none {d : Disk} {a : Nat} (h : ∀ q, a ≤ q → q < 63 → log.sec d q = zeroS) : ∀ k, a + k ≤ 63 → log.saltTo d 1 a k = 0
  | 0, _ => rfl
  | k + 1, hk => by
    rw [log.saltTo_succ, log.saltStep_F, salt_none h k (by omega)]
    have e : disk.readF d ((17 + (a + k) : Nat) : Int) = zeroS := h (a + k) (by omega) (by omega)
    rw [e]
    decide
theorem TOK.add {d : Disk} {rs : List Bs} {r : Bs} (h : TOK d rs) (hr : r.length ≤ 112) (hl : rs.length < 63) : ∃ a x, log.addF d r = (a, 0) ∧ doF d (a ++ [⟨true, ⟨0, []⟩⟩]) = (x, 0) ∧ a.length ≤ 1000 ∧ TOK x (rs ++ [r]) := by
  have hn1 : log.needs r.length = 1 := by unfold log.needs; omega
  have hsalt : log.saltF d (log.stateF d).1.epoch (log.stateF d).1.at' = 0 := by
    rw [h.ep, h.at']
    exact salt_none h.fr _ (by omega)
  have hgood := log.add_good (r := r) h.st (by omega) (by rw [h.at', hn1]; omega) (by rw [hsalt]; decide)
  have h0 : (log.addF d r).2 = 0 := by rw [hgood]
  obtain ⟨x, s, g1, g2, g3, g4, g5, g6, g7, g8, g9, g10, g11, g12⟩ := log.grows h0 (by rw [h.wt]; exact Nat.zero_le _)
  obtain ⟨x', k1, k2, k3, k4, k5, k6⟩ := log.do_acts h.ck (log.frameL (log.stateF d).1.epoch s (log.stateF d).1.last r) (17 + (log.stateF d).1.at') (log.needs r.length) (fun i hi => by rw [log.frame_at hi, log.sectorOf_length]) (by rw [h.ct, h.at', hn1]; omega) (by rw [h.wt, hn1]; decide)
  rw [← g10, g1] at k1
  cases k1
  obtain ⟨y, f1, f2, f3, f4, f5⟩ := flushed g2
  rw [h.at', hn1] at k6
  have hct : x.count = 200 := g3.trans h.ct
  have hlow : ∀ n : Nat, n < 17 → disk.readF y (n : Int) = disk.readF d (n : Int) := fun n hn => by
    rw [f5 _ (by omega) (by rw [hct]; omega), k6, if_neg (by omega)]
  have hst : log.stateF y = log.stateF x := state_same g2 f2 f3 (by rw [hct]; decide) f5
  refine ⟨_, y, Prod.ext rfl h0, by rw [log.do_snoc g1]; exact f1, by have := congrArg List.length g10; rw [log.actsTo_length, hn1] at this; exact Nat.le_trans (Nat.le_of_eq this) (by decide), ⟨f2, f3.trans hct, f4, fun i hi => ?_, fun i hi => ?_, ?_, ?_, ?_, ?_, fun q hq hq2 => ?_⟩⟩
  · rw [hlow _ (by omega)]; exact h.lo i hi
  · rw [hlow _ (by omega)]; exact h.hi i hi
  · rw [hst, g6]
  · rw [hst, g6]; exact h.ep
  · rw [hst, g6]; show (log.stateF d).1.recs ++ [r] = _; rw [h.rc]
  · rw [hst, g6]; show (log.stateF d).1.at' + log.needs r.length = _; rw [h.at', hn1, List.length_append]; rfl
  · rw [List.length_append, List.length_singleton] at hq
    show disk.readF y ((17 + q : Nat) : Int) = _
    rw [f5 _ (by omega) (by rw [hct]; omega), k6, if_neg (by omega)]
    exact h.fr q (by omega) hq2
noncomputable def F200 : Disk := ⟨200, dirB ++ List.replicate 24576 0, []⟩
theorem f200 : files.formatF 200 = (F200, 0) := by rw [files.formatF_0 (by omega)]; rfl
theorem f200_check : checkF F200 = 0 := by
  unfold checkF
  rw [if_neg]
  · rfl
  · show ¬ ((200 : Int) < 1 ∨ (4096 : Int) < 200 ∨ ¬ (((dirB ++ List.replicate 24576 (0 : UInt8)).length : Nat) : Int) = 200 * 128 ∨ 4096 < 0)
    rw [List.length_append, List.length_replicate, dirB_l]
    omega
theorem f200_read {n : Nat} : disk.readF F200 (n : Int) = ((dirB ++ List.replicate 24576 0).drop (n * 128)).take 128 := rfl
theorem f200_low {i : Nat} (hi : i < 8) : disk.readF F200 ((0 + i : Nat) : Int) = (dirB.drop (i * 128)).take 128 := by
  rw [f200_read, Nat.zero_add, List.drop_append_of_le_length (by rw [dirB_l]; omega), List.take_append_of_le_length (by rw [List.length_drop, dirB_l]; omega)]
theorem f200_high {n : Nat} (h1 : 8 ≤ n) (h2 : n < 200) : disk.readF F200 (n : Int) = zeroS := by
  rw [f200_read, List.drop_append, List.drop_of_length_le (by rw [dirB_l]; omega), List.nil_append, List.drop_replicate, List.take_replicate, Nat.min_eq_left (by rw [dirB_l]; omega)]
  rfl
theorem f200_head : log.headF F200 = 0 := log.head_of (by have := f200_high (n := 16) (by omega) (by omega); exact this.trans log.zero_clear)
theorem f200_epoch : ∀ k, k ≤ 63 → log.epochTo F200 k = 0
  | 0, _ => f200_head
  | k + 1, h => by
    have e : log.epochTo F200 (k + 1) = max (log.epochTo F200 k) (log.get4 (disk.readF F200 ((17 + k : Nat) : Int))) := rfl
    rw [e, f200_epoch k (by omega), f200_high (by omega) (by omega)]
    decide
theorem f200_clear : log.clearF F200 = ([⟨false, ⟨16, log.clearB 1⟩⟩, ⟨true, ⟨0, []⟩⟩], 0) := by
  have h := log.clear_good (d := F200) (log.there_of f200_check (by show (80 : Int) ≤ 200; decide)) (by rw [f200_epoch 63 (Nat.le_refl _)]; decide)
  rw [f200_epoch 63 (Nat.le_refl _)] at h
  exact h
theorem tok_new : ∃ x, doF F200 (log.clearF F200).1 = (x, 0) ∧ TOK x [] := by
  have h0 : (log.clearF F200).2 = 0 := by rw [f200_clear]
  obtain ⟨x, e1, e2, e3, e4, e5, e6⟩ := log.empties h0 (by show 0 ≤ 4000; omega)
  have hp := log.do_put (x := F200) (n := 16) (b := log.clearB 1) f200_check (by omega) (by show (16 : Int) < 200; decide) (log.clearB_length _) (by show 0 < 4096; omega)
  have hc2 := check_put (d := F200) (p := ⟨16, log.clearB 1⟩) f200_check (by show 0 < 4096; omega) ⟨by show (0 : Int) ≤ 16; decide, by show (16 : Int) < 200; decide, log.clearB_length _⟩
  obtain ⟨y, f1, f2, f3, f4, f5⟩ := flushed hc2
  have hdo : doF F200 (log.clearF F200).1 = (y, 0) := by
    rw [f200_clear]
    show doF F200 ([⟨false, ⟨16, log.clearB 1⟩⟩] ++ [⟨true, ⟨0, []⟩⟩]) = _
    rw [log.do_snoc hp]
    exact f1
  rw [hdo] at e1
  rw [show x = y from (congrArg Prod.fst e1).symm] at e5
  have hr : ∀ n : Nat, n < 200 → ¬ n = 16 → disk.readF y (n : Int) = disk.readF F200 (n : Int) := fun n h1 h2 => by
    rw [f5 _ (by omega) (by show (n : Int) < 200; omega), readF_put_other (by omega)]
  rw [f200_epoch 63 (Nat.le_refl _)] at e5
  refine ⟨y, hdo, ⟨f2, f3, f4, fun i hi => ?_, fun i hi => ?_, ?_, ?_, ?_, ?_, fun q hq hq2 => ?_⟩⟩
  · rw [hr _ (by omega) (by omega)]; exact f200_low hi
  · rw [hr _ (by omega) (by omega)]; exact f200_high (by omega) (by omega)
  · rw [e5]
  · rw [e5]; rfl
  · rw [e5]
  · rw [e5]; rfl
  · show disk.readF y ((17 + q : Nat) : Int) = _
    rw [hr _ (by omega) (by omega)]; exact f200_high (by omega) (by omega)
end tree
end Go.Proofs.YthliepcjfnjnoaaGreatDoor
namespace Go.Proofs.YthliepcjfnjnoaaGreatDoor
open Go page tree
attribute [local irreducible] tree.F200
theorem tFormat_fn {w : World} (hg : files.GOK w) : Fn Tryz.prog 19 [i64 200] w (fun r w2 => (∃ v x, r = .tuple #[v, i64 0] ∧ disk.tDisk.rep All w2 v x ∧ TOK x []) ∧ Ext (fun _ => False) w w2) := by
  obtain ⟨x, hx1, hx2⟩ := tok_new
  refine Fn.enter (fun w => Tryz.call19 _ w) Tryz.func19 rfl ?_
  refine .seq (.region ?_)
  refine .v rfl rfl (.alloc rfl rfl) ?_
  rintro _ w2 ⟨rfl, N2⟩
  have B2 := N2.blk
  have X2 := N2.ext
  have z2 := N2.size
  refine .p rfl rfl (.as rfl) ?_
  refine .nil (.code (.seq (.keep [(2, _), (0, _)] ⟨rfl, rfl, trivial⟩ (.region ?_))))
  refine .p rfl rfl (.mv rfl) ?_
  refine .call (first := []) (captured := []) rfl rfl rfl rfl (Format_fn (n := 200) (hg.ext0 (by repeat (first | exact Ext.refl _ | assumption | refine Ext.trans (by assumption) ?_))) (by omega)) ?_
  rintro _ w9 ⟨v9, rfl, R9, X9⟩
  have z9 := X9.size
  rw [f200] at R9 ⊢
  have R9 := allOf R9
  obtain ⟨a1, k1, a2, k2, rfl⟩ := shapeD R9
  refine .p rfl rfl (.mv rfl) ?_
  refine .p rfl rfl (.extract rfl rfl) ?_
  refine .p rfl rfl (.extract rfl rfl) ?_
  refine .v rfl rfl (.alloc rfl rfl) ?_
  rintro _ wn4 ⟨rfl, N4⟩
  refine .s rfl (.storeAll (n := 3) rfl rfl rfl rfl rfl N4.blk rfl) ?_
  intro w4 P4
  have Y4 := N4.ext.then P4.ext (by rintro k rfl _; exact Nat.le_refl _)
  have zy4 := Y4.size
  have B4 := P4.blk
  clear P4 N4
  refine .p rfl rfl (.as rfl) ?_
  refine .nil (.code (.seq (.seq (.keep [(5, _), (4, _), (2, _)] ⟨rfl, rfl, rfl, trivial⟩ (.region ?_)))))
  refine .p rfl rfl (.mv rfl) ?_
  refine .p rfl rfl (.no (.ne rfl rfl) (fun h => h rfl)) ?_
  refine .nil (.code (.keep [(13, _), (5, _), (4, _), (2, _)] ⟨rfl, rfl, rfl, rfl, trivial⟩ (.condF rfl (.skip (.code (.seq (.keep [(4, _), (2, _)] ⟨rfl, rfl, trivial⟩ (.region ?_))))))))
  refine .p rfl rfl (.loadA (n := 3) rfl rfl rfl rfl rfl (B4.ext (S := fun _ => False) (by repeat (first | exact Ext.refl _ | assumption | refine Ext.trans (by assumption) ?_)) (fun x => x)).cells) ?_
  refine .call (first := []) (captured := []) rfl rfl rfl rfl (Clear_fn (d := F200) (disk.tDisk.ext0 R9 (by repeat (first | exact Ext.refl _ | assumption | refine Ext.trans (by assumption) ?_)))) ?_
  rintro _ w18 ⟨v18, Q18, D18, rfl, G18, hq1, hq2, X18⟩
  have z18 := X18.size
  have e18 : (log.clearF F200).2 = 0 := by rw [f200_clear]
  rw [e18]
  refine .p rfl rfl (.mv rfl) ?_
  refine .p rfl rfl (.extract rfl rfl) ?_
  refine .p rfl rfl (.extract rfl rfl) ?_
  refine .p rfl rfl (.as rfl) ?_
  refine .p rfl rfl (.as rfl) ?_
  refine .nil (.code (.seq (.seq (.keep [(5, _), (6, _), (4, _), (2, _)] ⟨rfl, rfl, rfl, rfl, trivial⟩ (.region ?_)))))
  refine .p rfl rfl (.mv rfl) ?_
  refine .p rfl rfl (.no (.ne rfl rfl) (fun h => h rfl)) ?_
  refine .nil (.code (.keep [(22, _), (5, _), (6, _), (4, _), (2, _)] ⟨rfl, rfl, rfl, rfl, rfl, trivial⟩ (.condF rfl (.skip (.code (.seq (.keep [(6, _), (4, _), (2, _)] ⟨rfl, rfl, rfl, trivial⟩ (.region ?_))))))))
  refine .p rfl rfl (.loadA (n := 3) rfl rfl rfl rfl rfl (B4.ext (S := fun _ => False) (by repeat (first | exact Ext.refl _ | assumption | refine Ext.trans (by assumption) ?_)) (fun x => x)).cells) ?_
  refine .p rfl rfl (.mv rfl) ?_
  refine .call (first := []) (captured := []) rfl rfl rfl rfl (Do_fn (d := F200) (l := (log.clearF F200).1) (disk.tDisk.ext0 R9 (by repeat (first | exact Ext.refl _ | assumption | refine Ext.trans (by assumption) ?_))) ((Sl disk.tAct).ext0 (disk.actsOwn G18) (by repeat (first | exact Ext.refl _ | assumption | refine Ext.trans (by assumption) ?_)))) ?_
  rintro _ w27 ⟨v27, rfl, D27, X27⟩
  have z27 := X27.size
  rw [hx1] at D27 ⊢
  have R27 := D27.rep
  obtain ⟨a3, k3, a4, k4, rfl⟩ := shapeD R27
  refine .p rfl rfl (.extract rfl rfl) ?_
  refine .p rfl rfl (.extract rfl rfl) ?_
  refine .s rfl (.storeAll (n := 3) rfl rfl rfl rfl rfl (B2.ext (S := fun _ => False) (by repeat (first | exact Ext.refl _ | assumption | refine Ext.trans (by assumption) ?_)) (fun x => x)) rfl) ?_
  intro wz Pz
  refine .p rfl rfl (.as rfl) ?_
  refine .nil (.code ?_)
  refine .retR (.cell (n := 3) rfl rfl rfl rfl rfl (Pz.blk.cells) (.tmp rfl .nil)) ?_
  exact ⟨⟨_, x, rfl, allOf (disk.tDisk.ext R27 Pz.ext (fun k hk _ h => by have h : k = w.heap.size := h; have hk : w18.heap.size ≤ k := hk; omega)), hx2⟩, Ext.then (by repeat (first | exact Ext.refl _ | assumption | refine Ext.trans (by assumption) ?_)) Pz.ext (by rintro k rfl _; exact Nat.le_refl _)⟩
end Go.Proofs.YthliepcjfnjnoaaGreatDoor
namespace Go.Proofs.YthliepcjfnjnoaaGreatDoor
open Go page tree
theorem flushH {w : World} {b : Nat} {E : TypeId} {Q : Nat → Prop} (B : Blk w b E [.bool true, i64 0, .slice none 0 0]) : Holds disk.tAct Q w (.slice (some ⟨b, 0, none⟩) 1 1) [⟨true, ⟨0, []⟩⟩] := .inr ⟨b, 0, 1, [.agg #[.bool true, i64 0, .slice none 0 0]], rfl, .cons (disk.tAct.mk (a := ⟨true, ⟨0, []⟩⟩) Sl.nil (by decide)) .nil, B.cells⟩
theorem tPut_fn {w : World} {v vl : Value} {d : disk.Disk} {rs : List Bs} {ls : List (List Change)} {l : List Change} {r : Bs} {a : List disk.Act} {keep : Int} (h : disk.tDisk.rep All w v d) (hg : files.GOK w) (hnm : files.namesF d = ([], 0)) (hst : (log.stateF d).2 = 0) (hrs : (log.stateF d).1.recs = rs) (hok : RecsOK rs ls) (h12 : (entsTo ls rs.length).length ≤ 12) (h63 : rs.length ≤ 63) (hl : (Sl tChange).rep All w vl l) (hw : wF l ((rs.length : Int) + 1) = (r, 0)) (ha : log.addF d r = (a, 0)) (hk : 0 ≤ keep ∧ keep ≤ rs.length) (hr : r.length < Lim) (hal1 : a.length ≤ 1000) : Fn Tryz.prog 37 [v, vl, i64 keep] w (fun x w2 => (∃ u, x = .tuple #[u, i64 ((rs.length : Int) + 1), i64 0] ∧ (Sl disk.tAct).rep All w2 u (a ++ [⟨true, ⟨0, []⟩⟩])) ∧ Ext (fun _ => False) w w2) := by
  obtain ⟨a1, k1, a2, k2, rfl⟩ := shapeD h
  obtain ⟨al, kl, rfl, _⟩ := Sl.val hl
  refine Fn.enter (fun w => Tryz.call37 _ w) Tryz.func37 rfl ?_
  refine W2 ?_
  refine .v rfl rfl (.box rfl) ?_
  rintro _ w3 ⟨rfl, N3⟩
  have B3 := N3.blk
  have X3 := N3.ext
  have z3 := N3.size
  refine W7 ?_
  refine .p rfl rfl (.loadA (n := 3) rfl rfl rfl rfl rfl (B3.ext0 .au).cells) ?_
  refine .cl rfl rfl rfl rfl (read_fn (disk.tDisk.ext0 h .au) (hg.ext0 .au) hnm hst hrs hok h12 h63) ?_
  rintro _ w22 ⟨b, sv, es, rfl, hS, hE, he1, he2, X22⟩
  have z22 := X22.size
  obtain ⟨x1, x2, x3, x4, hB22⟩ := id hS
  refine W11 ?_
  refine .p rfl rfl (.no (.ne rfl rfl) (fun h => h rfl)) ?_
  refine W11 ?_
  refine .p rfl rfl (.load rfl rfl rfl (hB22.cell 7)) ?_
  refine W1 ?_
  refine .cl rfl rfl rfl rfl (TWrite_fn (seq := (rs.length : Int) + 1) ((Sl tChange).ext0 hl .au)) ?_
  rintro _ w35 ⟨rfl, X35⟩
  have z35 := X35.size
  rw [hw]
  refine W9 ?_
  refine .keep [(10, _), (11, _), (9, _), (3, _), (2, _)] ⟨rfl, rfl, rfl, rfl, rfl, trivial⟩ ?_
  refine W2 ?_
  refine .p rfl rfl (.no (.ne rfl rfl) (fun h => h rfl)) ?_
  refine W9 ?_
  refine .p rfl rfl (.no (.lt rfl rfl) (by omega)) ?_
  refine W5 ?_
  refine .p rfl rfl (.load rfl rfl rfl ((hB22.ext0 .au).cell 7)) ?_
  refine .p rfl rfl (.no (.gt rfl rfl) (by omega)) ?_
  refine W8 ?_
  refine .p rfl rfl (.loadA (n := 3) rfl rfl rfl rfl rfl (B3.ext0 .au).cells) ?_
  refine W1 ?_
  refine .cl rfl rfl rfl rfl (Add_fn (d := d) (r := r) (disk.tDisk.ext0 h .au) hr) ?_
  rintro _ w54 ⟨v54, Q54, D54, rfl, G54, hq1, hq2, X54⟩
  have z54 := X54.size
  rw [ha] at G54 ⊢
  obtain ⟨a54, k54, rfl, _⟩ := OwnO.val G54
  refine W8 ?_
  refine .keep [(10, _), (12, _), (11, _), (9, _), (3, _), (2, _)] ⟨rfl, rfl, rfl, rfl, rfl, rfl, trivial⟩ ?_
  refine W8 ?_
  refine .cl rfl rfl rfl rfl (at0_fn) ?_
  rintro _ w58 ⟨rfl, X58⟩
  refine W7 ?_
  refine .cl rfl rfl rfl rfl (IsNil_fn) ?_
  rintro _ w61 ⟨rfl, X61⟩
  have z54 := X54.size
  have z58 := X58.size
  have z61 := X61.size
  have z35 := X35.size
  have RA : (Sl disk.tAct).rep (fun k => k < w61.heap.size) w61 (.slice a54 a.length k54) a := (Sl disk.tAct).mono ((Sl disk.tAct).ext0 (disk.actsOwn G54) (X58.trans X61)) (P' := fun k => k < w61.heap.size) (fun k _ hl => hl)
  have hnb : ¬ (w61.heap.size ≤ b) := by have := hB22.lt; omega
  have hal := Sl.lim RA
  simp only [Lim] at hal
  refine W9 ?_
  refine .p rfl rfl (.no (.ne rfl rfl) (fun h => h rfl)) ?_
  refine W6 ?_
  refine .tree (fun k => w61.heap.size ≤ k) [2, 4, 5] (.op 0 (.op 1 (.op 3 (.op 6 (.op 7 (.op 8 (.op 9 (.op 10 (.alt 2 (.op 2 (.alt 4 (.op 4 (.alt 5 (.op 5 (.op 11 (.op 12 (.op 13 (.nil))))) (.stop))) (.stop))) (.alt 4 (.op 4 (.alt 2 (.op 2 (.alt 5 (.op 5 (.op 11 (.op 12 (.op 13 (.nil))))) (.stop))) (.stop))) (.stop))))))))))) (by kernel_rfl) (by kernel_rfl) (by kernel_rfl) ?_
  refine W2 ?_
  refine .p rfl rfl rfl rfl (fun wx hx => .build (cs := [.bool true, i64 0, .slice none 0 0]) rfl (fun _ => by kernel_rfl)) ?_
  refine W3 ?_
  refine .p rfl rfl rfl rfl (fun wx hx => .load rfl rfl rfl (((hB22.ext .au (fun x => x)).ext hx hnb).cell 7)) ?_
  refine W1 ?_
  refine .alt ?_ ?_
  · refine .v rfl rfl rfl rfl (.appendLo (B := fun k => w61.heap.size ≤ k) (Q := fun k => k < w61.heap.size) (t := disk.tAct) (eb := 40) rfl OwnO.nil (fun k hk => hk) rfl (Sl.holds (by first | exact RA | exact (Sl disk.tAct).ext0 RA N123.ext) (fun _ _ h => h)) rfl rfl rfl rfl rfl rfl rfl (by show (_ + _) * 40 ≤ _; simp only [List.length_nil, List.length_cons]; omega) (by show _ + _ < Lim; simp only [Lim, List.length_nil, List.length_cons]; omega) (fun k hq _ hb => by omega)) (by rintro _ _ ⟨_, hx⟩; exact (Ext.refl _).trans (hx.mono (fun k _ h => by omega))) ?_
    rintro r121 w121 ⟨G121, X121⟩
    rw [List.nil_append] at G121
    have z121 := X121.size
    have G121 := OwnO.mono G121 (fun _ h _ => h) (B' := fun k => w61.heap.size ≤ k ∧ k < w121.heap.size) (fun k h hl => ⟨h, hl⟩)
    have hX121 : Ext (fun k => w61.heap.size ≤ k) _ _ := (Ext.refl _).trans (X121.mono (fun k _ h => by omega))
    refine .alt ?_ ?_
    · refine .v rfl rfl rfl rfl (.lits rfl rfl (fun _ => by kernel_rfl)) (by rintro _ _ ⟨_, hN⟩; exact hX121.trans (hN.ext0)) ?_
      rintro _ w123 ⟨rfl, N123⟩
      have z123 := N123.size
      have hX123 : Ext (fun k => w61.heap.size ≤ k) _ _ := hX121.trans (N123.ext0)
      refine .alt ?_ ?_
      · refine .v rfl rfl rfl rfl (.appendLo (B := fun k => (w61.heap.size ≤ k ∧ k < w121.heap.size) ∨ w123.heap.size ≤ k) (Q := fun k => k < w61.heap.size) (t := disk.tAct) (eb := 40) rfl (OwnO.mono (by first | exact OwnO.ext0 G121 N123.ext | exact G121) (fun _ h _ => h) (fun k h _ => .inl h)) (fun k hk => .inr hk) rfl (.inr (flushH (by first | exact N123.blk | exact N123.blk.ext X121 (by show ¬ (_ ≤ _); omega)))) rfl rfl rfl rfl rfl rfl rfl (by show (_ + _) * 40 ≤ _; simp only [List.length_nil, List.length_cons]; omega) (by show _ + _ < Lim; simp only [Lim, List.length_nil, List.length_cons]; omega) (fun k hq _ hb => by omega)) (by rintro _ _ ⟨_, hx⟩; exact hX123.trans (hx.mono (fun k _ h => by omega))) ?_
        rintro r124 w124 ⟨G124, X124⟩
        have z124 := X124.size
        have hX124 : Ext (fun k => w61.heap.size ≤ k) _ _ := hX123.trans (X124.mono (fun k _ h => by omega))
        refine W5 ?_
        refine .ret _ rfl ?_
        exact ⟨⟨_, rfl, OwnO.rep G124 (fun _ _ _ => trivial) (fun _ _ _ => trivial)⟩, Ext.trans (show Ext (fun _ => False) w w61 from .au) ((Ext.refl w61).then hX124 (fun k h _ => h))⟩
      exact .stop
    exact .stop
  refine .alt ?_ ?_
  · refine .v rfl rfl rfl rfl (.lits rfl rfl (fun _ => by kernel_rfl)) (by rintro _ _ ⟨_, hN⟩; exact (Ext.refl _).trans (hN.ext0)) ?_
    rintro _ w123 ⟨rfl, N123⟩
    have z123 := N123.size
    have hX123 : Ext (fun k => w61.heap.size ≤ k) _ _ := (Ext.refl _).trans (N123.ext0)
    refine .alt ?_ ?_
    · refine .v rfl rfl rfl rfl (.appendLo (B := fun k => w123.heap.size ≤ k) (Q := fun k => k < w61.heap.size) (t := disk.tAct) (eb := 40) rfl OwnO.nil (fun k hk => hk) rfl (Sl.holds (by first | exact RA | exact (Sl disk.tAct).ext0 RA N123.ext) (fun _ _ h => h)) rfl rfl rfl rfl rfl rfl rfl (by show (_ + _) * 40 ≤ _; simp only [List.length_nil, List.length_cons]; omega) (by show _ + _ < Lim; simp only [Lim, List.length_nil, List.length_cons]; omega) (fun k hq _ hb => by omega)) (by rintro _ _ ⟨_, hx⟩; exact hX123.trans (hx.mono (fun k _ h => by omega))) ?_
      rintro r121 w121 ⟨G121, X121⟩
      rw [List.nil_append] at G121
      have z121 := X121.size
      have G121 := OwnO.mono G121 (fun _ h _ => h) (B' := fun k => w123.heap.size ≤ k ∧ k < w121.heap.size) (fun k h hl => ⟨h, hl⟩)
      have hX121 : Ext (fun k => w61.heap.size ≤ k) _ _ := hX123.trans (X121.mono (fun k _ h => by omega))
      refine .alt ?_ ?_
      · refine .v rfl rfl rfl rfl (.appendLo (B := fun k => (w123.heap.size ≤ k ∧ k < w121.heap.size) ∨ w121.heap.size ≤ k) (Q := fun k => k < w61.heap.size) (t := disk.tAct) (eb := 40) rfl (OwnO.mono (by first | exact OwnO.ext0 G121 N123.ext | exact G121) (fun _ h _ => h) (fun k h _ => .inl h)) (fun k hk => .inr hk) rfl (.inr (flushH (by first | exact N123.blk | exact N123.blk.ext X121 (by show ¬ (_ ≤ _); omega)))) rfl rfl rfl rfl rfl rfl rfl (by show (_ + _) * 40 ≤ _; simp only [List.length_nil, List.length_cons]; omega) (by show _ + _ < Lim; simp only [Lim, List.length_nil, List.length_cons]; omega) (fun k hq _ hb => by omega)) (by rintro _ _ ⟨_, hx⟩; exact hX121.trans (hx.mono (fun k _ h => by omega))) ?_
        rintro r124 w124 ⟨G124, X124⟩
        have z124 := X124.size
        have hX124 : Ext (fun k => w61.heap.size ≤ k) _ _ := hX121.trans (X124.mono (fun k _ h => by omega))
        refine W5 ?_
        refine .ret _ rfl ?_
        exact ⟨⟨_, rfl, OwnO.rep G124 (fun _ _ _ => trivial) (fun _ _ _ => trivial)⟩, Ext.trans (show Ext (fun _ => False) w w61 from .au) ((Ext.refl w61).then hX124 (fun k h _ => h))⟩
      exact .stop
    exact .stop
  exact .stop
end Go.Proofs.YthliepcjfnjnoaaGreatDoor
namespace Go.Proofs.YthliepcjfnjnoaaGreatDoor
open Go page
namespace tree
theorem wF_ok {l : List Change} {seq : Int} (h : (wF l seq).2 = 0) : ¬ (seq < 1 ∨ 2147483647 < seq) ∧ ¬ 64 < l.length ∧ ¬ l.length = 0 ∧ chgC [] l = 0 ∧ ¬ 4096 < (bodyC l seq).length ∧ wF l seq = (bodyC l seq, 0) := by
  by_cases h1 : seq < 1 ∨ 2147483647 < seq
  · rw [wF_2 h1] at h; cases h
  · by_cases h2 : 64 < l.length
    · rw [wF_4 h1 h2] at h; cases h
    · by_cases h3 : l.length = 0
      · rw [wF_6 h1 h3] at h; cases h
      · by_cases h4 : chgC [] l = 0
        · by_cases h5 : 4096 < (bodyC l seq).length
          · rw [wF_3 h1 h2 h3 h4 h5] at h; cases h
          · exact ⟨h1, h2, h3, h4, h5, wF_0 h1 h2 h3 h4 h5⟩
        · rw [wF_c h1 h2 h3 rfl h4] at h; exact absurd h h4
theorem rec_back {c : Change} {seen : List Bs} (h : oneC seen c = 0) (r : Bs) : ¬ ((textP (recB c ++ r, false)).2.2 = true ∨ (textP (recB c ++ r, false)).2.1 = []) ∧ entT (textP (recB c ++ r, false)) = (c, (r, false)) := by
  obtain ⟨h1, h2, h3, h4, _⟩ := oneC_ok h
  obtain ⟨k, v, g⟩ := c
  cases g with
  | true =>
    obtain rfl : v = [] := h4 rfl
    rw [recB_T rfl, List.append_assoc, textP_text _ _ (by show k.length < _; have : k.length ≤ 256 := h2; omega)]
    exact ⟨(by rintro (h | h) <;> cases h), entT_1 rfl⟩
  | false =>
    have h3 : v.length ≤ 4096 := h3
    rw [recB_F rfl, List.append_assoc, textP_text _ _ (by show k.length < _; have : k.length ≤ 256 := h2; omega)]
    refine ⟨(by rintro (h | h) <;> cases h), ?_⟩
    show entT (k, (0 :: (textF v ++ r), false)) = _
    rw [entT_0 (by decide), textP_text _ _ (by omega)]
theorem loopT_recs : ∀ {l : List Change} {seen : List Bs} {acc : List Change}, chgC seen l = 0 → loopT l.length acc (l.flatMap recB, false) = some (acc ++ l)
  | [], _, acc, _ => by rw [List.length_nil, List.flatMap_nil, loopT_0, if_neg (by decide), List.append_nil]
  | c :: l, seen, acc, h => by
    rw [chgC] at h
    by_cases hc : oneC seen c = 0
    · rw [if_neg (fun x => x hc)] at h
      obtain ⟨h1, h2⟩ := rec_back hc (l.flatMap recB)
      rw [List.length_cons, List.flatMap_cons, loopT_F h1, h2, loopT_recs h, List.append_assoc]
      rfl
    · rw [if_pos hc] at h
      exact absurd h hc
theorem record_back {l : List Change} {seq : Int} (h : (wF l seq).2 = 0) : readT (wF l seq).1 = (l, seq, 0) := by
  obtain ⟨h1, h2, h3, h4, h5, h6⟩ := wF_ok h
  have e1 : numP 2147483647 (bodyC l seq, false) = (seq.toNat, (smallF l.length ++ l.flatMap recB, false)) := by
    unfold bodyC preC
    rw [List.append_assoc]
    exact numP_small _ _ (by omega) (by omega)
  have e2 : numP 64 (smallF l.length ++ l.flatMap recB, false) = (l.length, (l.flatMap recB, false)) := numP_small _ _ (by omega) (by omega)
  have e3 : ((seq.toNat : Nat) : Int) = seq := Int.toNat_of_nonneg (by omega)
  rw [h6]
  show readT (bodyC l seq) = _
  rw [readT_some (l := l) (by rw [e1]; show loopT (numP 64 (smallF l.length ++ l.flatMap recB, false)).1 [] _ = _; rw [e2]; exact (loopT_recs h4).trans (by rw [List.nil_append])), e1]
  show (if ¬ (wF l ((seq.toNat : Nat) : Int)).2 = 0 ∨ ¬ (wF l ((seq.toNat : Nat) : Int)).1 = bodyC l seq then _ else _) = _
  rw [e3, h6, if_neg (by rintro (h | h) <;> exact h rfl)]
end tree
end Go.Proofs.YthliepcjfnjnoaaGreatDoor
