
/-
  Tables' statements: a measure, the chapter's entries, a table alive.
-/
import Derived.Test.YthkgadhamecnlaaTabUse
set_option linter.unusedVariables false
set_option linter.unusedSimpArgs false
set_option maxRecDepth 20000
namespace Go.Proofs.Ythkgadhamecnlaa
open Go page table
namespace table
def threeE : List Entry := [⟨[97], [], 2, false⟩, ⟨[97], [], 1, false⟩, ⟨[98], [], 3, true⟩]
theorem three_made : (makeT threeE).2 = 0 := by decide +kernel
theorem find_made {l : List Entry} {key : Bs} {seq : Int} (h : (makeT l).2 = 0) (hk : ¬ (key = [] ∨ 256 < key.length)) (hs : ¬ (seq < 0 ∨ 2147483647 < seq)) : findT (makeT l).1 key seq = match newest l key seq with | some x => (x, true, 0) | none => (page.zeroE, false, 0) := by
  have hm := makeT_two h
  have ho := open_back (l := l) (b := (makeT l).1) (Prod.ext rfl h)
  have he : entsR ((partF l).map rowOf) = l := by rw [ents_rows, part_flat]
  cases hn : newest l key seq with
  | none => exact findT_miss ho hk hs (by rw [he]; exact hn)
  | some x => exact findT_some ho hk hs (by rw [he]; exact hn)
theorem found_at {l : List Entry} {key : Bs} {seq : Int} {i : Nat} (hi : i < l.length) (hf : fitK key seq l[i] = true) (ha : ∀ j (h : j < l.length), j < i → fitK key seq l[j] = false) : newest l key seq = some l[i] := by
  unfold newest
  rw [List.find?_eq_some_iff_getElem]
  exact ⟨hf, i, hi, rfl, fun j hj => by rw [ha j (by omega) hj]; rfl⟩
theorem found_no {l : List Entry} {key : Bs} {seq : Int} (ha : ∀ j (h : j < l.length), fitK key seq l[j] = false) : newest l key seq = none := newest_none (fun x hx => by
  obtain ⟨j, hj, rfl⟩ := List.getElem_of_mem hx
  exact ha j hj)
end table
theorem hvy_fn {w : World} {v : Value} {l : List Entry} (h : (Sl tEntry).rep All w v l) (hb : l.length ≤ 1048576) : Fn Try.prog 11 [v] w (fun r w2 => (∃ q, r = .bool q) ∧ Ext (fun _ => False) w w2) := by
  obtain ⟨a, cap, rfl, hcap⟩ := Sl.val h
  refine Fn.enter (fun w => Try.call11 _ w) Try.func11 rfl ?_
  refine .seq (.region ?_)
  refine .p rfl rfl (.as rfl) ?_
  refine .nil (.code (.seq (.keep [(0, _)] ⟨rfl, trivial⟩ (.region ?_))))
  refine .p rfl rfl (.as rfl) ?_
  refine .nil (.code (.seq (.seq (.region ?_))))
  refine .p rfl rfl (.as rfl) ?_
  refine .nil (.code (.block ?_))
  refine .loop (S := Nat × Int) (fun s => [(0, .slice a l.length cap), (3, i64 s.2), (4, i64 s.1)]) (fun s => w) (fun s => s.1 ≤ l.length ∧ 0 ≤ s.2 ∧ s.2 ≤ 200000 * (s.1 : Int)) (fun s => l.length - s.1) (0, 0) ⟨rfl, rfl, rfl, trivial⟩ rfl ⟨Nat.zero_le _, (by decide : (0 : Int) ≤ 0), (by decide : (0 : Int) ≤ 200000 * ((0 : Nat) : Int))⟩ ?_
  rintro ⟨i, n⟩ J ⟨hi', hn0, hn⟩ again
  simp only at hi' hn0 hn
  change G _ [(0, .slice a l.length cap), (3, i64 n), (4, i64 i)] _ _ w
  refine .seq (.seq (.region ?_))
  refine .p rfl rfl (.mv rfl) ?_
  refine .p rfl rfl (.mv rfl) ?_
  refine .p rfl rfl (.len rfl rfl) ?_
  refine .p rfl rfl (.lt rfl rfl) ?_
  refine .nil (.code (.keep [(8, _), (0, _), (3, _), (4, _)] ⟨rfl, rfl, rfl, rfl, trivial⟩ ?_))
  refine .condD rfl (fun c8 => ?_) (fun c8 => ?_)
  · have hi : i < l.length := by omega
    obtain ⟨b0, o0, c0, ue, e, _, hcs, hre⟩ := Sl.at h (List.getElem?_eq_getElem hi)
    cases e
    obtain ⟨rfl, h1, h2, h3⟩ := tEntry.val hre
    refine .skip (.code (.seq (.block (.keep [(0, _), (3, _), (4, _)] ⟨rfl, rfl, rfl, trivial⟩ (.draws (by kernel_rfl) (by kernel_rfl) ?_)))))
    refine .p rfl rfl (.mv rfl) ?_
    refine .p rfl rfl (.mv rfl) ?_
    refine .p rfl rfl (.mv rfl) ?_
    refine .p rfl rfl (.indexAddr (s := 4) rfl rfl rfl rfl (by omega)) ?_
    refine .p rfl rfl (.fieldAddr rfl rfl rfl rfl) ?_
    refine .p rfl rfl (.load rfl rfl rfl (hcs 0 _ rfl)) ?_
    refine .p rfl rfl (.lenS rfl rfl) ?_
    refine .p rfl rfl (.min2 rfl rfl) ?_
    refine .p rfl rfl (.add rfl rfl (by omega)) ?_
    refine .p rfl rfl (.mv rfl) ?_
    refine .p rfl rfl (.mv rfl) ?_
    refine .p rfl rfl (.indexAddr (s := 4) rfl rfl rfl rfl (by omega)) ?_
    refine .p rfl rfl (.fieldAddr rfl rfl rfl rfl) ?_
    refine .p rfl rfl (.load rfl rfl rfl (hcs 1 _ rfl)) ?_
    refine .p rfl rfl (.lenS rfl rfl) ?_
    refine .p rfl rfl (.min2 rfl rfl) ?_
    refine .p rfl rfl (.add rfl rfl (by omega)) ?_
    refine .p rfl rfl (.as rfl) ?_
    refine .nil (.blk (.code (.keep [(3, _), (0, _), (4, _)] ⟨rfl, rfl, rfl, trivial⟩ (.region ?_))))
    refine .p rfl rfl (.mv rfl) ?_
    refine .p rfl rfl (.add rfl rfl (by omega)) ?_
    refine .p rfl rfl (.as rfl) ?_
    refine .nil ?_
    exact (again (i + 1, _) ⟨by show i + 1 ≤ _; omega, by show (0 : Int) ≤ n + min _ _ + min _ _; omega, by show n + min _ _ + min _ _ ≤ 200000 * ((i + 1 : Nat) : Int); omega⟩ (by show _ - (i + 1) < _ - i; omega)).of ⟨rfl, rfl, rfl, trivial⟩
  · refine .exit rfl (.code (.seq (.keep [(0, _), (3, _)] ⟨rfl, rfl, trivial⟩ (.region ?_))))
    refine .p rfl rfl (.mv rfl) ?_
    refine .p rfl rfl (.len rfl rfl) ?_
    refine .p rfl rfl (.gt rfl rfl) ?_
    refine .p rfl rfl (.mv rfl) ?_
    refine .caseD 31 rfl (fun c31 => ?_) (fun c31 => ?_)
    · refine .p rfl rfl (.mv rfl) ?_
      refine .p rfl rfl (.len rfl rfl) ?_
      refine .p rfl rfl (.le rfl rfl) ?_
      refine .p rfl rfl (.pickT rfl rfl) ?_
      refine .p rfl rfl (.mv rfl) ?_
      refine .caseD 36 rfl (fun c36 => ?_) (fun c36 => ?_)
      · refine .skip rfl rfl ?_
        refine .skip rfl rfl ?_
        refine .skip rfl rfl ?_
        refine .p rfl rfl (.pickT rfl rfl) ?_
        refine .p rfl rfl (.mv rfl) ?_
        refine .skip rfl rfl ?_
        refine .skip rfl rfl ?_
        refine .skip rfl rfl ?_
        refine .skip rfl rfl ?_
        refine .skip rfl rfl ?_
        refine .skip rfl rfl ?_
        refine .p rfl rfl (.pickT rfl rfl) ?_
        refine .p rfl rfl (.mv rfl) ?_
        refine .skip rfl rfl ?_
        refine .skip rfl rfl ?_
        refine .p rfl rfl (.pickT rfl rfl) ?_
        refine .p rfl rfl (.as rfl) ?_
        refine .nil (.code ?_)
        refine .ret _ rfl ?_
        exact ⟨⟨_, rfl⟩, .refl _⟩
      · refine .p rfl rfl (.mv rfl) ?_
        refine .p rfl rfl (.len rfl rfl) ?_
        refine .p rfl rfl (.gt rfl rfl) ?_
        refine .p rfl rfl (.pickF rfl rfl) ?_
        refine .p rfl rfl (.mv rfl) ?_
        refine .caseD 41 rfl (fun c41 => ?_) (fun c41 => ?_)
        · refine .skip rfl rfl ?_
          refine .skip rfl rfl ?_
          refine .skip rfl rfl ?_
          refine .skip rfl rfl ?_
          refine .skip rfl rfl ?_
          refine .skip rfl rfl ?_
          refine .p rfl rfl (.pickT rfl rfl) ?_
          refine .p rfl rfl (.mv rfl) ?_
          refine .skip rfl rfl ?_
          refine .skip rfl rfl ?_
          refine .p rfl rfl (.pickT rfl rfl) ?_
          refine .p rfl rfl (.as rfl) ?_
          refine .nil (.code ?_)
          refine .ret _ rfl ?_
          exact ⟨⟨_, rfl⟩, .refl _⟩
        · refine .p rfl rfl (.mv rfl) ?_
          refine .p rfl rfl (.gt rfl rfl) ?_
          refine .p rfl rfl (.mv rfl) ?_
          refine .caseD 44 rfl (fun c44 => ?_) (fun c44 => ?_)
          · refine .p rfl rfl (.mv rfl) ?_
            refine .p rfl rfl (.lt rfl rfl) ?_
            refine .p rfl rfl (.pickT rfl rfl) ?_
            refine .p rfl rfl (.pickF rfl rfl) ?_
            refine .p rfl rfl (.mv rfl) ?_
            refine .caseD 49 rfl (fun c49 => ?_) (fun c49 => ?_)
            · refine .skip rfl rfl ?_
              refine .skip rfl rfl ?_
              refine .p rfl rfl (.pickT rfl rfl) ?_
              refine .p rfl rfl (.as rfl) ?_
              refine .nil (.code ?_)
              refine .ret _ rfl ?_
              exact ⟨⟨_, rfl⟩, .refl _⟩
            · refine .p rfl rfl (.mv rfl) ?_
              refine .p rfl rfl (.gt rfl rfl) ?_
              refine .p rfl rfl (.pickF rfl rfl) ?_
              refine .p rfl rfl (.as rfl) ?_
              refine .nil (.code ?_)
              refine .ret _ rfl ?_
              exact ⟨⟨_, rfl⟩, .refl _⟩
          · refine .skip rfl rfl ?_
            refine .skip rfl rfl ?_
            refine .p rfl rfl (.pickF rfl rfl) ?_
            refine .p rfl rfl (.pickF rfl rfl) ?_
            refine .p rfl rfl (.mv rfl) ?_
            refine .p rfl rfl (.mv rfl) ?_
            refine .p rfl rfl (.gt rfl rfl) ?_
            refine .p rfl rfl (.pickF rfl rfl) ?_
            refine .p rfl rfl (.as rfl) ?_
            refine .nil (.code ?_)
            refine .ret _ rfl ?_
            exact ⟨⟨_, rfl⟩, .refl _⟩
    · refine .skip rfl rfl ?_
      refine .skip rfl rfl ?_
      refine .skip rfl rfl ?_
      refine .p rfl rfl (.pickF rfl rfl) ?_
      refine .p rfl rfl (.mv rfl) ?_
      refine .p rfl rfl (.mv rfl) ?_
      refine .p rfl rfl (.len rfl rfl) ?_
      refine .p rfl rfl (.gt rfl rfl) ?_
      refine .p rfl rfl (.pickF rfl rfl) ?_
      refine .p rfl rfl (.mv rfl) ?_
      refine .caseD 41 rfl (fun c41 => ?_) (fun c41 => ?_)
      · refine .skip rfl rfl ?_
        refine .skip rfl rfl ?_
        refine .skip rfl rfl ?_
        refine .skip rfl rfl ?_
        refine .skip rfl rfl ?_
        refine .skip rfl rfl ?_
        refine .p rfl rfl (.pickT rfl rfl) ?_
        refine .p rfl rfl (.mv rfl) ?_
        refine .skip rfl rfl ?_
        refine .skip rfl rfl ?_
        refine .p rfl rfl (.pickT rfl rfl) ?_
        refine .p rfl rfl (.as rfl) ?_
        refine .nil (.code ?_)
        refine .ret _ rfl ?_
        exact ⟨⟨_, rfl⟩, .refl _⟩
      · refine .p rfl rfl (.mv rfl) ?_
        refine .p rfl rfl (.gt rfl rfl) ?_
        refine .p rfl rfl (.mv rfl) ?_
        refine .caseD 44 rfl (fun c44 => ?_) (fun c44 => ?_)
        · refine .p rfl rfl (.mv rfl) ?_
          refine .p rfl rfl (.lt rfl rfl) ?_
          refine .p rfl rfl (.pickT rfl rfl) ?_
          refine .p rfl rfl (.pickF rfl rfl) ?_
          refine .p rfl rfl (.mv rfl) ?_
          refine .caseD 49 rfl (fun c49 => ?_) (fun c49 => ?_)
          · refine .skip rfl rfl ?_
            refine .skip rfl rfl ?_
            refine .p rfl rfl (.pickT rfl rfl) ?_
            refine .p rfl rfl (.as rfl) ?_
            refine .nil (.code ?_)
            refine .ret _ rfl ?_
            exact ⟨⟨_, rfl⟩, .refl _⟩
          · refine .p rfl rfl (.mv rfl) ?_
            refine .p rfl rfl (.gt rfl rfl) ?_
            refine .p rfl rfl (.pickF rfl rfl) ?_
            refine .p rfl rfl (.as rfl) ?_
            refine .nil (.code ?_)
            refine .ret _ rfl ?_
            exact ⟨⟨_, rfl⟩, .refl _⟩
        · refine .skip rfl rfl ?_
          refine .skip rfl rfl ?_
          refine .p rfl rfl (.pickF rfl rfl) ?_
          refine .p rfl rfl (.pickF rfl rfl) ?_
          refine .p rfl rfl (.mv rfl) ?_
          refine .p rfl rfl (.mv rfl) ?_
          refine .p rfl rfl (.gt rfl rfl) ?_
          refine .p rfl rfl (.pickF rfl rfl) ?_
          refine .p rfl rfl (.as rfl) ?_
          refine .nil (.code ?_)
          refine .ret _ rfl ?_
          exact ⟨⟨_, rfl⟩, .refl _⟩
theorem three_fn {w : World} : Fn Try.prog 25 [] w (fun r w2 => (Sl tEntry).rep All w2 r threeE ∧ Ext (fun _ => False) w w2) := by
  refine Fn.enter (fun w => Try.call25 _ w) Try.func25 rfl ?_
  refine .seq (.region ?_)
  refine .p rfl rfl (.as rfl) ?_
  refine .nil (.code (.seq (.keep [] trivial (.region ?_))))
  refine .p rfl rfl (.build (cs := [str [97], str [], i64 2, .bool false]) rfl (fun _ => by kernel_rfl)) ?_
  refine .p rfl rfl (.build (cs := [str [97], str [], i64 1, .bool false]) rfl (fun _ => by kernel_rfl)) ?_
  refine .p rfl rfl (.build (cs := [str [98], str [], i64 3, .bool true]) rfl (fun _ => by kernel_rfl)) ?_
  refine .v rfl rfl (.lits rfl rfl (fun _ => by kernel_rfl)) ?_
  rintro _ w4 ⟨rfl, N4⟩
  refine .p rfl rfl (.as rfl) ?_
  refine .nil (.code ?_)
  refine .ret _ rfl ?_
  exact ⟨Sl.mk (us := [.agg #[str [97], str [], i64 2, .bool false], .agg #[str [97], str [], i64 1, .bool false], .agg #[str [98], str [], i64 3, .bool true]]) (.cons (tEntry.mk (x := ⟨[97], [], 2, false⟩) (by simp [Lim]) (by simp [Lim]) (by decide)) (.cons (tEntry.mk (x := ⟨[97], [], 1, false⟩) (by simp [Lim]) (by simp [Lim]) (by decide)) (.cons (tEntry.mk (x := ⟨[98], [], 3, true⟩) (by simp [Lim]) (by simp [Lim]) (by decide)) .nil))) (by have := N4.blk.cells; exact this) trivial N4.blk.lt (by simp [threeE]) (by simp [threeE, Lim]) rfl, N4.ext⟩
theorem alive9_fn {w : World} : Fn Try.prog 15 [] w (fun r w2 => r = .bool true ∧ Ext (fun _ => False) w w2) := by
  refine Fn.enter (fun w => Try.call15 _ w) Try.func15 rfl ?_
  refine .seq (.region ?_)
  refine .p rfl rfl (.as rfl) ?_
  refine .nil (.code (.seq (.keep [] trivial (.region ?_))))
  refine .call (first := []) (captured := []) rfl rfl rfl rfl (three_fn) ?_
  rintro r7 w7 ⟨R7, X7⟩
  refine .call (first := []) (captured := []) rfl rfl rfl rfl (TMake_fn R7) ?_
  rintro _ w8 ⟨v8, rfl, G8, X8⟩
  refine .p rfl rfl (.mv rfl) ?_
  refine .p rfl rfl (.extract rfl rfl) ?_
  refine .p rfl rfl (.extract rfl rfl) ?_
  refine .p rfl rfl (.as rfl) ?_
  refine .p rfl rfl (.as rfl) ?_
  refine .nil (.code (.seq (.keep [(2, _), (1, _)] ⟨rfl, rfl, trivial⟩ (.region ?_))))
  refine .p rfl rfl (.mv rfl) ?_
  refine .call (first := []) (captured := []) rfl rfl rfl rfl (TFind_fn (key := [97]) (seq := 1) (Gr.rep G8) (by decide)) ?_
  rintro _ w13 ⟨rfl, X13⟩
  have hF : findT (makeT threeE).1 [97] 1 = (⟨[97], [], 1, false⟩, true, 0) := by rw [find_made three_made (by decide) (by decide)]; rfl
  rw [hF]
  refine .p rfl rfl (.mv rfl) ?_
  refine .p rfl rfl (.extract rfl rfl) ?_
  refine .p rfl rfl (.extract rfl rfl) ?_
  refine .p rfl rfl (.extract rfl rfl) ?_
  refine .v rfl rfl (.alloc rfl rfl) ?_
  rintro _ w3 ⟨rfl, N3⟩
  refine .s rfl (.storeAll (n := 4) rfl rfl rfl rfl rfl N3.blk rfl) ?_
  intro w4 P3
  have X3 := N3.ext.then P3.ext (by rintro k rfl _; exact Nat.le_refl _)
  have B3 := P3.blk
  refine .p rfl rfl (.as rfl) ?_
  refine .p rfl rfl (.as rfl) ?_
  refine .nil (.code (.seq (.keep [(5, _), (4, _), (3, _), (2, _)] ⟨rfl, rfl, rfl, rfl, trivial⟩ (.region ?_))))
  refine .p rfl rfl (.mv rfl) ?_
  refine .p rfl rfl (.yes (.eq rfl rfl) (three_made)) ?_
  refine .p rfl rfl (.mv rfl) ?_
  refine .p rfl rfl (.mv rfl) ?_
  refine .p rfl rfl (.yes (.eq rfl rfl) (rfl)) ?_
  refine .p rfl rfl (.pickT rfl rfl) ?_
  refine .p rfl rfl (.mv rfl) ?_
  refine .p rfl rfl (.mv rfl) ?_
  refine .p rfl rfl (.pickT rfl rfl) ?_
  refine .p rfl rfl (.mv rfl) ?_
  refine .p rfl rfl (.fieldAddr rfl rfl rfl rfl) ?_
  refine .p rfl rfl (.load rfl rfl rfl (B3.cell 2)) ?_
  refine .p rfl rfl (.yes (.eq rfl rfl) (rfl)) ?_
  refine .p rfl rfl (.pickT rfl rfl) ?_
  refine .p rfl rfl (.as rfl) ?_
  refine .nil (.code ?_)
  refine .ret _ rfl ?_
  exact ⟨rfl, ((X7.trans X8).trans X13).trans X3⟩
end Go.Proofs.Ythkgadhamecnlaa
