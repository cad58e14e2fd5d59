import Derived.Test.YthliepcjfnjnoaaGreatDoorB16
import Derived.Test.YthliepcjfnjnoaaGreatDoorB06
import Derived.Test.YthliepcjfnjnoaaGreatDoorB04
import Derived.Test.YthliepcjfnjnoaaGreatDoorB07
import Derived.Laws.StructEq
set_option linter.unusedVariables false
set_option linter.unusedSimpArgs false
set_option maxRecDepth 20000
namespace Go.Proofs.YthliepcjfnjnoaaGreatDoor
open Go
namespace tree
structure Change where
  key : Bs
  value : Bs
  gone : Bool
deriving DecidableEq
def tChange : Ty Change := (tStr.pair (tStr.pair tBool)).map (fun x => (x.key, x.value, x.gone))
theorem tChange.val {P : Nat → Prop} {w : World} {v : Value} {x : Change} (h : tChange.rep P w v x) : v = .agg #[str x.key, str x.value, .bool x.gone] ∧ x.key.length < Lim ∧ x.value.length < Lim := by
  obtain ⟨_, _, rfl, ⟨rfl, h1⟩, _, _, rfl, ⟨rfl, h2⟩, rfl⟩ := h
  exact ⟨rfl, h1, h2⟩
theorem tChange.mk {P : Nat → Prop} {w : World} {x : Change} (h1 : x.key.length < Lim) (h2 : x.value.length < Lim) : tChange.rep P w (.agg #[str x.key, str x.value, .bool x.gone]) x :=
  ⟨str x.key, .agg #[str x.value, .bool x.gone], rfl, ⟨rfl, h1⟩, str x.value, .bool x.gone, rfl, ⟨rfl, h2⟩, rfl⟩
def oneC (seen : List Bs) (c : Change) : Int := if c.key = [] ∨ 256 < c.key.length then 60 else if 4096 < c.value.length then 3 else if (c.gone = true ∧ ¬ c.value = []) ∨ c.key ∈ seen then 8 else 0
def chgC : List Bs → List Change → Int
  | _, [] => 0
  | seen, c :: r => if ¬ oneC seen c = 0 then oneC seen c else chgC (seen ++ [c.key]) r
def recB (c : Change) : Bs := textF c.key ++ (if c.gone = true then [1] else 0 :: textF c.value)
def preC (l : List Change) (seq : Int) : Bs := smallF seq.toNat ++ smallF l.length
def bodyC (l : List Change) (seq : Int) : Bs := preC l seq ++ l.flatMap recB
def wF (l : List Change) (seq : Int) : Bs × Int :=
  if seq < 1 ∨ 2147483647 < seq then ([], 2) else if 64 < l.length then ([], 4) else if l.length = 0 then ([], 6) else if ¬ chgC [] l = 0 then ([], chgC [] l) else if 4096 < (bodyC l seq).length then ([], 3) else (bodyC l seq, 0)
theorem wF_2 {l : List Change} {seq : Int} (h : seq < 1 ∨ 2147483647 < seq) : wF l seq = ([], 2) := by unfold wF; rw [if_pos h]
theorem wF_4 {l : List Change} {seq : Int} (h : ¬ (seq < 1 ∨ 2147483647 < seq)) (h2 : 64 < l.length) : wF l seq = ([], 4) := by unfold wF; rw [if_neg h, if_pos h2]
theorem wF_6 {l : List Change} {seq : Int} (h : ¬ (seq < 1 ∨ 2147483647 < seq)) (h2 : l.length = 0) : wF l seq = ([], 6) := by unfold wF; rw [if_neg h, if_neg (by omega), if_pos h2]
theorem wF_c {l : List Change} {seq e : Int} (h : ¬ (seq < 1 ∨ 2147483647 < seq)) (h2 : ¬ 64 < l.length) (h3 : ¬ l.length = 0) (hc : chgC [] l = e) (he : ¬ e = 0) : wF l seq = ([], e) := by unfold wF; rw [if_neg h, if_neg h2, if_neg h3, if_pos (by rw [hc]; exact he), hc]
theorem wF_3 {l : List Change} {seq : Int} (h : ¬ (seq < 1 ∨ 2147483647 < seq)) (h2 : ¬ 64 < l.length) (h3 : ¬ l.length = 0) (hc : chgC [] l = 0) (hb : 4096 < (bodyC l seq).length) : wF l seq = ([], 3) := by unfold wF; rw [if_neg h, if_neg h2, if_neg h3, if_neg (by rw [hc]; exact fun x => x rfl), if_pos hb]
theorem wF_0 {l : List Change} {seq : Int} (h : ¬ (seq < 1 ∨ 2147483647 < seq)) (h2 : ¬ 64 < l.length) (h3 : ¬ l.length = 0) (hc : chgC [] l = 0) (hb : ¬ 4096 < (bodyC l seq).length) : wF l seq = (bodyC l seq, 0) := by unfold wF; rw [if_neg h, if_neg h2, if_neg h3, if_neg (by rw [hc]; exact fun x => x rfl), if_neg hb]
theorem chg_step {l : List Change} {seen : List Bs} {i : Nat} (h : i < l.length) : chgC seen (l.drop i) = if ¬ oneC seen l[i] = 0 then oneC seen l[i] else chgC (seen ++ [l[i].key]) (l.drop (i + 1)) := by
  rw [List.drop_eq_getElem_cons h, chgC]
theorem chg_err {l : List Change} {seen : List Bs} {i : Nat} {e : Int} (h : i < l.length) (hchg : chgC [] l = chgC seen (l.drop i)) (he : oneC seen l[i] = e) (h0 : ¬ e = 0) : chgC [] l = e := by
  rw [hchg, chg_step h, if_pos (by rw [he]; exact h0), he]
theorem chg_ok {l : List Change} {seen : List Bs} {i : Nat} (h : i < l.length) (hchg : chgC [] l = chgC seen (l.drop i)) (he : oneC seen l[i] = 0) : chgC [] l = chgC (seen ++ [l[i].key]) (l.drop (i + 1)) := by
  rw [hchg, chg_step h, if_neg (by rw [he]; exact fun x => x rfl)]
theorem recB_len {c : Change} (h1 : c.key.length ≤ 256) (h2 : c.value.length ≤ 4096) : (recB c).length ≤ 4400 := by
  have h3 := smallF_length c.key.length
  have h4 := smallF_length c.value.length
  unfold recB textF
  split <;> simp <;> omega
theorem recB_T {c : Change} (h : c.gone = true) : recB c = textF c.key ++ [1] := by unfold recB; rw [if_pos h]
theorem recB_F {c : Change} (h : c.gone = false) : recB c = textF c.key ++ 0 :: textF c.value := by unfold recB; rw [if_neg (by rw [h]; exact Bool.false_ne_true)]
theorem keys_step {l : List Change} {i : Nat} (h : i < l.length) : (l.take (i + 1)).map (·.key) = (l.take i).map (·.key) ++ [l[i].key] := by
  rw [List.take_succ_eq_append_getElem h, List.map_append]
  rfl
theorem recs_step {l : List Change} {i : Nat} (h : i < l.length) : (l.take (i + 1)).flatMap recB = (l.take i).flatMap recB ++ recB l[i] := by
  rw [List.take_succ_eq_append_getElem h, List.flatMap_append]
  simp
theorem oneC_ok {seen : List Bs} {c : Change} (h : oneC seen c = 0) : c.key ≠ [] ∧ c.key.length ≤ 256 ∧ c.value.length ≤ 4096 ∧ (c.gone = true → c.value = []) ∧ c.key ∉ seen := by
  unfold oneC at h
  split at h
  · omega
  · rename_i h1
    split at h
    · omega
    · split at h
      · omega
      · rename_i h3
        exact ⟨fun e => h1 (.inl e), by omega, by omega, fun e => Decidable.byContradiction (fun e2 => h3 (.inl ⟨e, e2⟩)), fun e => h3 (.inr e)⟩
theorem textF_len (l : Bs) : (textF l).length ≤ 10 + l.length := by
  have := smallF_length l.length
  simp [textF]
  omega
end tree
open tree
theorem TWrite_fn {w : World} {v : Value} {l : List Change} {seq : Int} (h : (Sl tChange).rep All w v l) : Fn Tryz.prog 7 [v, i64 seq] w (fun r w2 => r = .tuple #[str (wF l seq).1, i64 (wF l seq).2] ∧ Ext (fun _ => False) w w2) := by
  obtain ⟨a, cap, rfl, hcap⟩ := Sl.val h
  refine Fn.enter (fun w => Tryz.call7 _ w) Tryz.func7 rfl ?_
  refine .seq (.region ?_)
  refine .p rfl rfl (.as rfl) ?_
  refine .p rfl rfl (.as rfl) ?_
  refine .nil (.code (.seq (.block (.seq (.keep [(0, _), (1, _)] ⟨rfl, rfl, trivial⟩ (.region ?_))))))
  refine .p rfl rfl (.mv rfl) ?_
  refine .p rfl rfl (.lt rfl rfl) ?_
  refine .p rfl rfl (.mv rfl) ?_
  refine .caseD 13 rfl (fun c13 => ?_) (fun c13 => ?_)
  · refine .skip rfl rfl ?_
    refine .skip rfl rfl ?_
    refine .p rfl rfl (.pickT rfl rfl) ?_
    refine .p rfl rfl (.as rfl) ?_
    refine .nil (.code (.keep [(10, _), (0, _), (1, _)] ⟨rfl, rfl, rfl, trivial⟩ (.condT rfl (.seq (.keep [] trivial (.region ?_))))))
    refine .p rfl rfl (.as rfl) ?_
    refine .p rfl rfl (.as rfl) ?_
    refine .nil (.code ?_)
    refine .ret _ rfl ?_
    rw [wF_2 (by omega)]
    exact ⟨rfl, .refl _⟩
  · refine .p rfl rfl (.mv rfl) ?_
    refine .p rfl rfl (.gt rfl rfl) ?_
    refine .p rfl rfl (.pickF rfl rfl) ?_
    refine .p rfl rfl (.as rfl) ?_
    refine .nil (.code (.keep [(10, _), (0, _), (1, _)] ⟨rfl, rfl, rfl, trivial⟩ ?_))
    refine .condD rfl (fun c10 => ?_) (fun c10 => ?_)
    · refine .seq (.keep [] trivial (.region ?_))
      refine .p rfl rfl (.as rfl) ?_
      refine .p rfl rfl (.as rfl) ?_
      refine .nil (.code ?_)
      refine .ret _ rfl ?_
      rw [wF_2 (by omega)]
      exact ⟨rfl, .refl _⟩
    · refine .seq (.keep [(0, _), (1, _)] ⟨rfl, rfl, trivial⟩ (.region ?_))
      refine .p rfl rfl (.mv rfl) ?_
      refine .p rfl rfl (.len rfl rfl) ?_
      refine .p rfl rfl (.gt rfl rfl) ?_
      refine .p rfl rfl (.as rfl) ?_
      refine .nil (.code (.keep [(17, _), (0, _), (1, _)] ⟨rfl, rfl, rfl, trivial⟩ ?_))
      refine .condD rfl (fun c17 => ?_) (fun c17 => ?_)
      · refine .seq (.keep [] trivial (.region ?_))
        refine .p rfl rfl (.as rfl) ?_
        refine .p rfl rfl (.as rfl) ?_
        refine .nil (.code ?_)
        refine .ret _ rfl ?_
        rw [wF_4 (by omega) (by omega)]
        exact ⟨rfl, .refl _⟩
      · refine .seq (.keep [(0, _), (1, _)] ⟨rfl, rfl, trivial⟩ (.region ?_))
        refine .p rfl rfl (.mv rfl) ?_
        refine .p rfl rfl (.len rfl rfl) ?_
        refine .p rfl rfl (.eq rfl rfl) ?_
        refine .p rfl rfl (.as rfl) ?_
        refine .nil (.code (.keep [(21, _), (0, _), (1, _)] ⟨rfl, rfl, rfl, trivial⟩ ?_))
        refine .condD rfl (fun c21 => ?_) (fun c21 => ?_)
        · refine .seq (.keep [] trivial (.region ?_))
          refine .p rfl rfl (.as rfl) ?_
          refine .p rfl rfl (.as rfl) ?_
          refine .nil (.code ?_)
          refine .ret _ rfl ?_
          rw [wF_6 (by omega) (by omega)]
          exact ⟨rfl, .refl _⟩
        · have hsq : ¬ (seq < 1 ∨ 2147483647 < seq) := by omega
          have h64 : ¬ 64 < l.length := by omega
          have hne : ¬ l.length = 0 := by omega
          refine .skip (.blk (.code (.seq (.keep [(0, _), (1, _)] ⟨rfl, rfl, trivial⟩ (.region ?_)))))
          refine .p rfl rfl (.mv rfl) ?_
          refine .p rfl rfl (.cast (.convU rfl rfl rfl (by omega)) (show _ = Value.int .u64 ((seq.toNat : Nat) : Int) by rw [Int.toNat_of_nonneg (by omega)])) ?_
          refine .call (first := []) (captured := []) rfl rfl rfl rfl (Small_fn (n := seq.toNat) (by omega)) ?_
          rintro r27 w27 ⟨G27, X27⟩
          have z27 : w.heap.size ≤ w27.heap.size := X27.size
          refine .p rfl rfl (.mv rfl) ?_
          refine .p rfl rfl (.len rfl rfl) ?_
          refine .p rfl rfl (.convU rfl rfl rfl (by omega)) ?_
          refine .call (first := []) (captured := []) rfl rfl rfl rfl (Small_fn (n := l.length) (by omega)) ?_
          rintro r31 w31 ⟨G31, X31⟩
          have z31 : w27.heap.size ≤ w31.heap.size := X31.size
          have hs1 := smallF_length seq.toNat
          have hs2 := smallF_length l.length
          refine .v rfl rfl (.appendLo (t := tByte) (eb := 1) rfl (OwnO.ext0 G27 X31) (fun k hk => by have hk : w31.heap.size ≤ k := hk; show w.heap.size ≤ k; omega) rfl (Gr.holds (Gr.rep G31)) rfl rfl rfl rfl rfl rfl rfl (by simp; omega) (by simp [Lim]; omega) (fun _ h _ => h.elim)) ?_
          rintro r32 w32 ⟨G32, Y32⟩
          have z32 : w31.heap.size ≤ w32.heap.size := Y32.size
          refine .p rfl rfl (.as rfl) ?_
          refine .nil (.code (.seq (.keep [(6, _), (0, _)] ⟨rfl, rfl, trivial⟩ (.region ?_))))
          refine .v rfl rfl (.makeMap (K := str) trivial) ?_
          rintro _ w33 ⟨rfl, M33, X33, z33⟩
          generalize hm : w32.heap.size = m at M33 ⊢
          refine .p rfl rfl (.as rfl) ?_
          refine .nil (.code (.seq (.seq (.keep [(7, _), (6, _), (0, _)] ⟨rfl, rfl, rfl, trivial⟩ (.region ?_)))))
          refine .p rfl rfl (.mv rfl) ?_
          refine .p rfl rfl (.len rfl rfl) ?_
          refine .p rfl rfl (.mv rfl) ?_
          refine .nil (.code (.block (.keep [(36, _), (35, _), (34, _), (7, _), (6, _)] ⟨rfl, rfl, rfl, rfl, rfl, trivial⟩ ?_)))
          refine .loop (S := Nat × Bs × Value × (Nat → Prop) × World) (fun s => [(6, s.2.2.1), (7, .map (some m)), (34, .slice a l.length cap), (35, i64 l.length), (36, i64 s.1)]) (fun s => s.2.2.2.2) (fun s => s.1 ≤ l.length ∧ chgC [] l = chgC ((l.take s.1).map (·.key)) (l.drop s.1) ∧ s.2.1 = preC l seq ++ (l.take s.1).flatMap recB ∧ s.2.1.length ≤ 20 + 4400 * s.1 ∧ (∀ k, s.2.2.2.1 k → w.heap.size ≤ k ∧ k ≠ m ∧ k < s.2.2.2.2.heap.size) ∧ MapV str s.2.2.2.2 m (((l.take s.1).map (·.key)).map (fun k => (k, .bool true))) ∧ OwnO tByte (fun _ => False) 5 s.2.2.2.2 s.2.2.1 s.2.1 s.2.2.2.1 ∧ Ext (fun _ => False) w s.2.2.2.2) (fun s => l.length - s.1) (0, smallF seq.toNat ++ smallF l.length, _, (fun k => w.heap.size ≤ k ∧ k < w32.heap.size), w33) ⟨rfl, rfl, rfl, rfl, rfl, trivial⟩ rfl ⟨Nat.zero_le _, rfl, (List.append_nil _).symm, (by show (smallF seq.toNat ++ smallF l.length).length ≤ 20 + 4400 * 0; simp; omega), (fun k hk => ⟨hk.1, by have := hk.2; omega, by have := hk.2; show k < w33.heap.size; omega⟩), M33, (OwnO.mono G32 (fun _ h _ => h) (fun k h1 h2 => ⟨h1, h2⟩)).ext0 X33, ((X27.trans X31).then Y32 (fun k hk _ => hk)).trans X33⟩ ?_
          rintro ⟨i, acc, v6, B, wi⟩ J ⟨hi', hchg, hacc, hal, hB, hM, hG, hX⟩ again
          simp only at hi' hchg hacc hal hB hM hG hX
          have zwi : w.heap.size ≤ wi.heap.size := hX.size
          have hml := hM.lt
          have hmw : w.heap.size ≤ m := by omega
          change G _ [(6, v6), (7, .map (some m)), (34, .slice a l.length cap), (35, i64 l.length), (36, i64 i)] _ _ wi
          refine .seq (.region ?_)
          refine .p rfl rfl (.lt rfl rfl) ?_
          refine .nil (.code (.seq ?_))
          refine .condD rfl (fun c37 => ?_) (fun c37 => ?_)
          · have hi : i < l.length := by omega
            obtain ⟨b0, o0, c0, ue, e, _, hcs, hre⟩ := Sl.at h (List.getElem?_eq_getElem hi)
            cases e
            obtain ⟨rfl, h1, h2⟩ := tChange.val hre
            refine .skip (.code (.seq (.block (.seq (.keep [(6, _), (7, _), (34, _), (35, _), (36, _)] ⟨rfl, rfl, rfl, rfl, rfl, trivial⟩ (.region ?_))))))
            refine .p rfl rfl (.indexAddr (s := 3) rfl rfl rfl rfl (by omega)) ?_
            refine .p rfl rfl (.loadA (n := 3) rfl rfl rfl rfl rfl (hcs.ext hX (fun x => x))) ?_
            refine .v rfl rfl (.alloc rfl rfl) ?_
            rintro _ w9 ⟨rfl, N9⟩
            refine .s rfl (.storeAll (n := 3) rfl rfl rfl rfl rfl N9.blk rfl) ?_
            intro w11 P9
            have X9 := N9.ext.then P9.ext (by rintro k rfl _; exact Nat.le_refl _)
            have B9 := P9.blk
            have z9 : w11.heap.size = wi.heap.size + 1 := by rw [P9.size, N9.size]
            have M9 := hM.ext X9 (fun x => x)
            refine .nil (.code (.seq (.block (.seq (.keep [(9, _), (6, _), (7, _), (34, _), (35, _), (36, _)] ⟨rfl, rfl, rfl, rfl, rfl, rfl, trivial⟩ (.region ?_))))))
            refine .p rfl rfl (.fieldAddr rfl rfl rfl rfl) ?_
            refine .p rfl rfl (.load rfl rfl rfl (B9.cell 0)) ?_
            refine .p rfl rfl (.eqS rfl rfl) ?_
            refine .p rfl rfl (.mv rfl) ?_
            refine .caseD 44 rfl (fun c44 => ?_) (fun c44 => ?_)
            · refine .skip rfl rfl ?_
              refine .skip rfl rfl ?_
              refine .skip rfl rfl ?_
              refine .skip rfl rfl ?_
              refine .p rfl rfl (.pickT rfl rfl) ?_
              refine .p rfl rfl (.as rfl) ?_
              refine .nil (.code (.keep [(40, _), (9, _), (6, _), (7, _), (34, _), (35, _), (36, _)] ⟨rfl, rfl, rfl, rfl, rfl, rfl, rfl, trivial⟩ (.condT rfl (.seq (.keep [] trivial (.region ?_))))))
              refine .p rfl rfl (.as rfl) ?_
              refine .p rfl rfl (.as rfl) ?_
              refine .nil (.code ?_)
              refine .ret _ rfl ?_
              rw [wF_c hsq h64 hne (chg_err hi hchg (e := 60) (by unfold oneC; rw [if_pos (.inl c44)]) (by decide)) (by decide)]
              exact ⟨rfl, hX.trans X9⟩
            · refine .p rfl rfl (.fieldAddr rfl rfl rfl rfl) ?_
              refine .p rfl rfl (.load rfl rfl rfl (B9.cell 0)) ?_
              refine .p rfl rfl (.lenS rfl rfl) ?_
              refine .p rfl rfl (.gt rfl rfl) ?_
              refine .p rfl rfl (.pickF rfl rfl) ?_
              refine .p rfl rfl (.as rfl) ?_
              refine .nil (.code (.keep [(40, _), (9, _), (6, _), (7, _), (34, _), (35, _), (36, _)] ⟨rfl, rfl, rfl, rfl, rfl, rfl, rfl, trivial⟩ ?_))
              refine .condD rfl (fun c40 => ?_) (fun c40 => ?_)
              · refine .seq (.keep [] trivial (.region ?_))
                refine .p rfl rfl (.as rfl) ?_
                refine .p rfl rfl (.as rfl) ?_
                refine .nil (.code ?_)
                refine .ret _ rfl ?_
                rw [wF_c hsq h64 hne (chg_err hi hchg (e := 60) (by unfold oneC; rw [if_pos (.inr (by omega))]) (by decide)) (by decide)]
                exact ⟨rfl, hX.trans X9⟩
              · refine .seq (.keep [(9, _), (6, _), (7, _), (34, _), (35, _), (36, _)] ⟨rfl, rfl, rfl, rfl, rfl, rfl, trivial⟩ (.region ?_))
                refine .p rfl rfl (.fieldAddr rfl rfl rfl rfl) ?_
                refine .p rfl rfl (.load rfl rfl rfl (B9.cell 1)) ?_
                refine .p rfl rfl (.lenS rfl rfl) ?_
                refine .p rfl rfl (.gt rfl rfl) ?_
                refine .p rfl rfl (.as rfl) ?_
                refine .nil (.code (.keep [(50, _), (9, _), (6, _), (7, _), (34, _), (35, _), (36, _)] ⟨rfl, rfl, rfl, rfl, rfl, rfl, rfl, trivial⟩ ?_))
                refine .condD rfl (fun c50 => ?_) (fun c50 => ?_)
                · refine .seq (.keep [] trivial (.region ?_))
                  refine .p rfl rfl (.as rfl) ?_
                  refine .p rfl rfl (.as rfl) ?_
                  refine .nil (.code ?_)
                  refine .ret _ rfl ?_
                  rw [wF_c hsq h64 hne (chg_err hi hchg (e := 3) (by unfold oneC; rw [if_neg (fun h => h.elim c44 (by omega)), if_pos (by omega)]) (by decide)) (by decide)]
                  exact ⟨rfl, hX.trans X9⟩
                · refine .seq (.keep [(9, _), (6, _), (7, _), (34, _), (35, _), (36, _)] ⟨rfl, rfl, rfl, rfl, rfl, rfl, trivial⟩ (.region ?_))
                  refine .p rfl rfl (.fieldAddr rfl rfl rfl rfl) ?_
                  refine .p rfl rfl (.load rfl rfl rfl (B9.cell 2)) ?_
                  refine .p rfl rfl (.mv rfl) ?_
                  refine .case 58 rfl (fun c58 => ?_) (fun c58 => ?_)
                  · refine .p rfl rfl (.fieldAddr rfl rfl rfl rfl) ?_
                    refine .p rfl rfl (.load rfl rfl rfl (B9.cell 1)) ?_
                    refine .p rfl rfl (.neS rfl rfl) ?_
                    refine .p rfl rfl (.pickT rfl rfl) ?_
                    refine .p rfl rfl (.mv rfl) ?_
                    refine .caseD 63 rfl (fun c63 => ?_) (fun c63 => ?_)
                    · refine .skip rfl rfl ?_
                      refine .skip rfl rfl ?_
                      refine .skip rfl rfl ?_
                      refine .skip rfl rfl ?_
                      refine .p rfl rfl (.pickT rfl rfl) ?_
                      refine .p rfl rfl (.as rfl) ?_
                      refine .nil (.code (.keep [(55, _), (9, _), (6, _), (7, _), (34, _), (35, _), (36, _)] ⟨rfl, rfl, rfl, rfl, rfl, rfl, rfl, trivial⟩ (.condT rfl (.seq (.keep [] trivial (.region ?_))))))
                      refine .p rfl rfl (.as rfl) ?_
                      refine .p rfl rfl (.as rfl) ?_
                      refine .nil (.code ?_)
                      refine .ret _ rfl ?_
                      rw [wF_c hsq h64 hne (chg_err hi hchg (e := 8) (by unfold oneC; rw [if_neg (fun h => h.elim c44 (by omega)), if_neg (by omega), if_pos (.inl ⟨c58, c63⟩)]) (by decide)) (by decide)]
                      exact ⟨rfl, hX.trans X9⟩
                    · refine .p rfl rfl (.mv rfl) ?_
                      refine .p rfl rfl (.fieldAddr rfl rfl rfl rfl) ?_
                      refine .p rfl rfl (.load rfl rfl rfl (B9.cell 0)) ?_
                      refine .p rfl rfl (.lookSet (ks := (l.take i).map (·.key)) M9 str_key str_inj' rfl rfl rfl rfl rfl rfl) ?_
                      refine .p rfl rfl (.pickF rfl rfl) ?_
                      refine .p rfl rfl (.as rfl) ?_
                      refine .nil (.code (.keep [(55, _), (9, _), (6, _), (7, _), (34, _), (35, _), (36, _)] ⟨rfl, rfl, rfl, rfl, rfl, rfl, rfl, trivial⟩ ?_))
                      refine .condD rfl (fun c55 => ?_) (fun c55 => ?_)
                      · refine .seq (.keep [] trivial (.region ?_))
                        refine .p rfl rfl (.as rfl) ?_
                        refine .p rfl rfl (.as rfl) ?_
                        refine .nil (.code ?_)
                        refine .ret _ rfl ?_
                        rw [wF_c hsq h64 hne (chg_err hi hchg (e := 8) (by unfold oneC; rw [if_neg (fun h => h.elim c44 (by omega)), if_neg (by omega), if_pos (.inr c55)]) (by decide)) (by decide)]
                        exact ⟨rfl, hX.trans X9⟩
                      · have hone : oneC ((l.take i).map (·.key)) l[i] = 0 := by unfold oneC; rw [if_neg (fun h => h.elim c44 (by omega)), if_neg (by omega), if_neg (fun h => h.elim (fun h => by first | exact c63 h.2 | (rw [c58] at h; exact Bool.false_ne_true h.1)) c55)]
                        obtain ⟨k1, k2, k3, k4, k5⟩ := oneC_ok hone
                        have hnew : ∀ p ∈ ((l.take i).map (·.key)).map (fun k => (k, Value.bool true)), p.1 ≠ l[i].key := by rintro p hp he; obtain ⟨q, hq, rfl⟩ := List.mem_map.1 hp; exact k5 (he ▸ hq)
                        refine .skip (.blk (.code (.seq (.keep [(9, _), (6, _), (7, _), (34, _), (35, _), (36, _)] ⟨rfl, rfl, rfl, rfl, rfl, rfl, trivial⟩ (.region ?_)))))
                        refine .p rfl rfl (.mv rfl) ?_
                        refine .p rfl rfl (.fieldAddr rfl rfl rfl rfl) ?_
                        refine .p rfl rfl (.load rfl rfl rfl (B9.cell 0)) ?_
                        refine .s rfl (.mapPush (k := l[i].key) (v := .bool true) M9 str_key str_inj' hnew rfl rfl rfl rfl rfl) ?_
                        intro w18 h18
                        obtain ⟨M18, X18, z18⟩ := h18
                        have B18 := B9.ext X18 (fun h => by have h : wi.heap.size = m := h; omega)
                        have hGB : OwnO tByte (fun _ => False) 5 w18 v6 acc (fun k => B k ∨ w11.heap.size ≤ k) := ((OwnO.mono hG (fun _ h _ => h) (fun j h1 h2 => (.inl h1 : B j ∨ w11.heap.size ≤ j))).ext0 X9).ext X18 (fun k hk _ he => by have he : k = m := he; rcases hk with hk | hk; exact (hB k hk).2.1 he; omega) (fun _ h _ => h.elim)
                        refine .nil (.code (.seq (.keep [(9, _), (6, _), (7, _), (34, _), (35, _), (36, _)] ⟨rfl, rfl, rfl, rfl, rfl, rfl, trivial⟩ (.region ?_))))
                        refine .p rfl rfl (.mv rfl) ?_
                        refine .p rfl rfl (.fieldAddr rfl rfl rfl rfl) ?_
                        refine .p rfl rfl (.load rfl rfl rfl (B18.cell 0)) ?_
                        refine .call (first := []) (captured := []) rfl rfl rfl rfl (Text_fn (l := l[i].key) (by simp only [Lim]; omega) (by simp only [Lim]; omega)) ?_
                        rintro r75 w75 ⟨G75, X75⟩
                        have z75 : w18.heap.size ≤ w75.heap.size := X75.size
                        have B75 := B18.ext X75 (fun x => x)
                        have ht1 := textF_len l[i].key
                        have ht2 := textF_len l[i].value
                        refine .v rfl rfl (.appendLo (t := tByte) (eb := 1) rfl (OwnO.ext0 hGB X75) (fun k hk => by have hk : w75.heap.size ≤ k := hk; exact .inr (by omega)) rfl (Gr.holds (Gr.rep G75)) rfl rfl rfl rfl rfl rfl rfl (by simp; omega) (by simp [Lim]; omega) (fun _ h _ => h.elim)) ?_
                        rintro r76 w76 ⟨G76, Y76⟩
                        have z76 : w75.heap.size ≤ w76.heap.size := Y76.size
                        have B76 := B75.ext Y76 (fun h => h.elim (fun h => by have := (hB _ h).2.2; omega) (fun h => by omega))
                        refine .p rfl rfl (.as rfl) ?_
                        refine .nil (.code (.seq (.keep [(6, _), (9, _), (7, _), (34, _), (35, _), (36, _)] ⟨rfl, rfl, rfl, rfl, rfl, rfl, trivial⟩ (.region ?_))))
                        refine .p rfl rfl (.fieldAddr rfl rfl rfl rfl) ?_
                        refine .p rfl rfl (.load rfl rfl rfl (B76.cell 2)) ?_
                        refine .nil (.code (.keep [(78, _), (6, _), (9, _), (7, _), (34, _), (35, _), (36, _)] ⟨rfl, rfl, rfl, rfl, rfl, rfl, rfl, trivial⟩ ?_))
                        refine .cond rfl (fun c78 => ?_) (fun c78 => ?_)
                        · refine .keep [(6, _), (7, _), (34, _), (35, _), (36, _)] ⟨rfl, rfl, rfl, rfl, rfl, trivial⟩ (.region ?_)
                          refine .p rfl rfl (.mv rfl) ?_
                          refine .v rfl rfl (.lits rfl rfl (fun _ => by kernel_rfl)) ?_
                          rintro _ w80 ⟨rfl, N80⟩
                          have z80 := N80.size
                          refine .v rfl rfl (.appendLo (t := tByte) (eb := 1) rfl (OwnO.ext0 G76 N80.ext) (fun k hk => by have hk : w80.heap.size ≤ k := hk; exact .inr (by omega)) rfl (one_holds (c := 1) N80) rfl rfl rfl rfl rfl rfl rfl (by simp; omega) (by simp [Lim]; omega) (fun _ h _ => h.elim)) ?_
                          rintro r81 w81 ⟨G81, Y81⟩
                          have z81 : w80.heap.size ≤ w81.heap.size := Y81.size
                          refine .p rfl rfl (.as rfl) ?_
                          refine .nil (.blk (.code (.keep [(6, _), (7, _), (34, _), (35, _), (36, _)] ⟨rfl, rfl, rfl, rfl, rfl, trivial⟩ (.region ?_))))
                          refine .p rfl rfl (.add rfl rfl (by omega)) ?_
                          refine .p rfl rfl (.mv rfl) ?_
                          refine .nil ?_
                          exact (again (i + 1, acc ++ recB l[i], _, (fun k => (B k ∨ w11.heap.size ≤ k) ∧ k < w81.heap.size), w81) ⟨by show i + 1 ≤ l.length; omega, by rw [keys_step hi]; exact chg_ok hi hchg hone, by show acc ++ recB l[i] = _; rw [recs_step hi, hacc, List.append_assoc], by have := recB_len k2 k3; show (acc ++ recB l[i]).length ≤ 20 + 4400 * (i + 1); rw [List.length_append]; omega, (fun k hk => ⟨by rcases hk.1 with h | h; exact (hB k h).1; omega, fun e => by rcases hk.1 with h | h; exact (hB k h).2.1 e; omega, hk.2⟩), by rw [keys_step hi, List.map_append]; exact ((((M18.ext X75 (fun x => x)).ext Y76 (fun h => h.elim (fun h => (hB m h).2.1 rfl) (fun h => by omega))).ext N80.ext (fun x => x)).ext Y81 (fun h => h.elim (fun h => (hB m h).2.1 rfl) (fun h => by omega))), by rw [recB_T c78, ← List.append_assoc]; exact OwnO.mono G81 (fun _ h _ => h) (fun k h hlt => ⟨h, hlt⟩), (((((hX.trans X9).then X18 (fun k h _ => by have h : k = m := h; omega)).trans X75).then Y76 (fun k h _ => by rcases h with h | h; exact (hB k h).1; omega)).trans N80.ext).then Y81 (fun k h _ => by rcases h with h | h; exact (hB k h).1; omega)⟩ (by show l.length - (i + 1) < l.length - i; omega)).of ⟨rfl, rfl, rfl, rfl, rfl, trivial⟩
                        · refine .keep [(6, _), (9, _), (7, _), (34, _), (35, _), (36, _)] ⟨rfl, rfl, rfl, rfl, rfl, rfl, trivial⟩ (.mix ((fun k => B k ∨ w11.heap.size ≤ k)) [1, 2, 5, 6] (by kernel_rfl) (by kernel_rfl) (by kernel_rfl) ?_)
                          refine .p rfl rfl rfl (fun wx hx => .mv rfl) ?_
                          refine .v rfl rfl rfl (.lits rfl rfl (fun _ => by kernel_rfl)) (by rintro _ _ ⟨_, hN⟩; exact hN.ext0) ?_
                          rintro _ w83 ⟨rfl, N83⟩
                          have z83 := N83.size
                          refine .v rfl rfl rfl (.appendLo (t := tByte) (eb := 1) rfl (OwnO.ext0 G76 N83.ext) (fun k hk => by have hk : w83.heap.size ≤ k := hk; exact .inr (by omega)) rfl (one_holds (c := 0) N83) rfl rfl rfl rfl rfl rfl rfl (by simp; omega) (by simp [Lim]; omega) (fun _ h _ => h.elim)) (by rintro _ _ ⟨_, hx⟩; exact (N83.ext0).trans hx) ?_
                          rintro r84 w84 ⟨G84, Y84⟩
                          have z84 : w83.heap.size ≤ w84.heap.size := Y84.size
                          refine .p rfl rfl rfl (fun wx hx => .fieldAddr rfl rfl rfl rfl) ?_
                          refine .p rfl rfl rfl (fun wx hx => .load rfl rfl rfl ((B76.ext hx (fun h => h.elim (fun h => by have := (hB _ h).2.2; omega) (fun h => by omega))).cell 1)) ?_
                          refine .call (first := []) (captured := []) rfl rfl rfl rfl rfl (Text_fn (l := l[i].value) (by simp only [Lim]; omega) (by simp only [Lim]; omega)) (by rintro _ _ ⟨_, hx⟩; exact (N83.ext0.trans Y84).trans (hx.mono (fun _ _ h => h.elim))) ?_
                          rintro r87 w87 ⟨G87, X87⟩
                          have z87 : w84.heap.size ≤ w87.heap.size := X87.size
                          refine .v rfl rfl rfl (.appendLo (t := tByte) (eb := 1) rfl (OwnO.ext0 G84 X87) (fun k hk => by have hk : w87.heap.size ≤ k := hk; exact .inr (by omega)) rfl (Gr.holds (Gr.rep G87)) rfl rfl rfl rfl rfl rfl rfl (by simp; omega) (by simp [Lim]; omega) (fun _ h _ => h.elim)) (by rintro _ _ ⟨_, hx⟩; exact ((N83.ext0.trans Y84).trans (X87.mono (fun _ _ h => h.elim))).trans hx) ?_
                          rintro r88 w88 ⟨G88, Y88⟩
                          have z88 : w87.heap.size ≤ w88.heap.size := Y88.size
                          refine .p rfl rfl rfl (fun wx hx => .as rfl) ?_
                          refine .nil (.blk (.code (.keep [(6, _), (7, _), (34, _), (35, _), (36, _)] ⟨rfl, rfl, rfl, rfl, rfl, trivial⟩ (.region ?_))))
                          refine .p rfl rfl (.add rfl rfl (by omega)) ?_
                          refine .p rfl rfl (.mv rfl) ?_
                          refine .nil ?_
                          exact (again (i + 1, acc ++ recB l[i], _, (fun k => (B k ∨ w11.heap.size ≤ k) ∧ k < w88.heap.size), w88) ⟨by show i + 1 ≤ l.length; omega, by rw [keys_step hi]; exact chg_ok hi hchg hone, by show acc ++ recB l[i] = _; rw [recs_step hi, hacc, List.append_assoc], by have := recB_len k2 k3; show (acc ++ recB l[i]).length ≤ 20 + 4400 * (i + 1); rw [List.length_append]; omega, (fun k hk => ⟨by rcases hk.1 with h | h; exact (hB k h).1; omega, fun e => by rcases hk.1 with h | h; exact (hB k h).2.1 e; omega, hk.2⟩), by rw [keys_step hi, List.map_append]; exact ((((((M18.ext X75 (fun x => x)).ext Y76 (fun h => h.elim (fun h => (hB m h).2.1 rfl) (fun h => by omega))).ext N83.ext (fun x => x)).ext Y84 (fun h => h.elim (fun h => (hB m h).2.1 rfl) (fun h => by omega))).ext X87 (fun x => x)).ext Y88 (fun h => h.elim (fun h => (hB m h).2.1 rfl) (fun h => by omega))), by rw [recB_F c78, ← List.append_assoc, List.append_cons]; exact OwnO.mono G88 (fun _ h _ => h) (fun k h hlt => ⟨h, hlt⟩), (((((((hX.trans X9).then X18 (fun k h _ => by have h : k = m := h; omega)).trans X75).then Y76 (fun k h _ => by rcases h with h | h; exact (hB k h).1; omega)).trans N83.ext).then Y84 (fun k h _ => by rcases h with h | h; exact (hB k h).1; omega)).trans X87).then Y88 (fun k h _ => by rcases h with h | h; exact (hB k h).1; omega)⟩ (by show l.length - (i + 1) < l.length - i; omega)).of ⟨rfl, rfl, rfl, rfl, rfl, trivial⟩
                  · refine .skip rfl rfl ?_
                    refine .skip rfl rfl ?_
                    refine .skip rfl rfl ?_
                    refine .p rfl rfl (.pickF rfl rfl) ?_
                    refine .p rfl rfl (.mv rfl) ?_
                    refine .p rfl rfl (.mv rfl) ?_
                    refine .p rfl rfl (.fieldAddr rfl rfl rfl rfl) ?_
                    refine .p rfl rfl (.load rfl rfl rfl (B9.cell 0)) ?_
                    refine .p rfl rfl (.lookSet (ks := (l.take i).map (·.key)) M9 str_key str_inj' rfl rfl rfl rfl rfl rfl) ?_
                    refine .p rfl rfl (.pickF rfl rfl) ?_
                    refine .p rfl rfl (.as rfl) ?_
                    refine .nil (.code (.keep [(55, _), (9, _), (6, _), (7, _), (34, _), (35, _), (36, _)] ⟨rfl, rfl, rfl, rfl, rfl, rfl, rfl, trivial⟩ ?_))
                    refine .condD rfl (fun c55 => ?_) (fun c55 => ?_)
                    · refine .seq (.keep [] trivial (.region ?_))
                      refine .p rfl rfl (.as rfl) ?_
                      refine .p rfl rfl (.as rfl) ?_
                      refine .nil (.code ?_)
                      refine .ret _ rfl ?_
                      rw [wF_c hsq h64 hne (chg_err hi hchg (e := 8) (by unfold oneC; rw [if_neg (fun h => h.elim c44 (by omega)), if_neg (by omega), if_pos (.inr c55)]) (by decide)) (by decide)]
                      exact ⟨rfl, hX.trans X9⟩
                    · have hone : oneC ((l.take i).map (·.key)) l[i] = 0 := by unfold oneC; rw [if_neg (fun h => h.elim c44 (by omega)), if_neg (by omega), if_neg (fun h => h.elim (fun h => by first | exact c63 h.2 | (rw [c58] at h; exact Bool.false_ne_true h.1)) c55)]
                      obtain ⟨k1, k2, k3, k4, k5⟩ := oneC_ok hone
                      have hnew : ∀ p ∈ ((l.take i).map (·.key)).map (fun k => (k, Value.bool true)), p.1 ≠ l[i].key := by rintro p hp he; obtain ⟨q, hq, rfl⟩ := List.mem_map.1 hp; exact k5 (he ▸ hq)
                      refine .skip (.blk (.code (.seq (.keep [(9, _), (6, _), (7, _), (34, _), (35, _), (36, _)] ⟨rfl, rfl, rfl, rfl, rfl, rfl, trivial⟩ (.region ?_)))))
                      refine .p rfl rfl (.mv rfl) ?_
                      refine .p rfl rfl (.fieldAddr rfl rfl rfl rfl) ?_
                      refine .p rfl rfl (.load rfl rfl rfl (B9.cell 0)) ?_
                      refine .s rfl (.mapPush (k := l[i].key) (v := .bool true) M9 str_key str_inj' hnew rfl rfl rfl rfl rfl) ?_
                      intro w18 h18
                      obtain ⟨M18, X18, z18⟩ := h18
                      have B18 := B9.ext X18 (fun h => by have h : wi.heap.size = m := h; omega)
                      have hGB : OwnO tByte (fun _ => False) 5 w18 v6 acc (fun k => B k ∨ w11.heap.size ≤ k) := ((OwnO.mono hG (fun _ h _ => h) (fun j h1 h2 => (.inl h1 : B j ∨ w11.heap.size ≤ j))).ext0 X9).ext X18 (fun k hk _ he => by have he : k = m := he; rcases hk with hk | hk; exact (hB k hk).2.1 he; omega) (fun _ h _ => h.elim)
                      refine .nil (.code (.seq (.keep [(9, _), (6, _), (7, _), (34, _), (35, _), (36, _)] ⟨rfl, rfl, rfl, rfl, rfl, rfl, trivial⟩ (.region ?_))))
                      refine .p rfl rfl (.mv rfl) ?_
                      refine .p rfl rfl (.fieldAddr rfl rfl rfl rfl) ?_
                      refine .p rfl rfl (.load rfl rfl rfl (B18.cell 0)) ?_
                      refine .call (first := []) (captured := []) rfl rfl rfl rfl (Text_fn (l := l[i].key) (by simp only [Lim]; omega) (by simp only [Lim]; omega)) ?_
                      rintro r75 w75 ⟨G75, X75⟩
                      have z75 : w18.heap.size ≤ w75.heap.size := X75.size
                      have B75 := B18.ext X75 (fun x => x)
                      have ht1 := textF_len l[i].key
                      have ht2 := textF_len l[i].value
                      refine .v rfl rfl (.appendLo (t := tByte) (eb := 1) rfl (OwnO.ext0 hGB X75) (fun k hk => by have hk : w75.heap.size ≤ k := hk; exact .inr (by omega)) rfl (Gr.holds (Gr.rep G75)) rfl rfl rfl rfl rfl rfl rfl (by simp; omega) (by simp [Lim]; omega) (fun _ h _ => h.elim)) ?_
                      rintro r76 w76 ⟨G76, Y76⟩
                      have z76 : w75.heap.size ≤ w76.heap.size := Y76.size
                      have B76 := B75.ext Y76 (fun h => h.elim (fun h => by have := (hB _ h).2.2; omega) (fun h => by omega))
                      refine .p rfl rfl (.as rfl) ?_
                      refine .nil (.code (.seq (.keep [(6, _), (9, _), (7, _), (34, _), (35, _), (36, _)] ⟨rfl, rfl, rfl, rfl, rfl, rfl, trivial⟩ (.region ?_))))
                      refine .p rfl rfl (.fieldAddr rfl rfl rfl rfl) ?_
                      refine .p rfl rfl (.load rfl rfl rfl (B76.cell 2)) ?_
                      refine .nil (.code (.keep [(78, _), (6, _), (9, _), (7, _), (34, _), (35, _), (36, _)] ⟨rfl, rfl, rfl, rfl, rfl, rfl, rfl, trivial⟩ ?_))
                      refine .cond rfl (fun c78 => ?_) (fun c78 => ?_)
                      · refine .keep [(6, _), (7, _), (34, _), (35, _), (36, _)] ⟨rfl, rfl, rfl, rfl, rfl, trivial⟩ (.region ?_)
                        refine .p rfl rfl (.mv rfl) ?_
                        refine .v rfl rfl (.lits rfl rfl (fun _ => by kernel_rfl)) ?_
                        rintro _ w80 ⟨rfl, N80⟩
                        have z80 := N80.size
                        refine .v rfl rfl (.appendLo (t := tByte) (eb := 1) rfl (OwnO.ext0 G76 N80.ext) (fun k hk => by have hk : w80.heap.size ≤ k := hk; exact .inr (by omega)) rfl (one_holds (c := 1) N80) rfl rfl rfl rfl rfl rfl rfl (by simp; omega) (by simp [Lim]; omega) (fun _ h _ => h.elim)) ?_
                        rintro r81 w81 ⟨G81, Y81⟩
                        have z81 : w80.heap.size ≤ w81.heap.size := Y81.size
                        refine .p rfl rfl (.as rfl) ?_
                        refine .nil (.blk (.code (.keep [(6, _), (7, _), (34, _), (35, _), (36, _)] ⟨rfl, rfl, rfl, rfl, rfl, trivial⟩ (.region ?_))))
                        refine .p rfl rfl (.add rfl rfl (by omega)) ?_
                        refine .p rfl rfl (.mv rfl) ?_
                        refine .nil ?_
                        exact (again (i + 1, acc ++ recB l[i], _, (fun k => (B k ∨ w11.heap.size ≤ k) ∧ k < w81.heap.size), w81) ⟨by show i + 1 ≤ l.length; omega, by rw [keys_step hi]; exact chg_ok hi hchg hone, by show acc ++ recB l[i] = _; rw [recs_step hi, hacc, List.append_assoc], by have := recB_len k2 k3; show (acc ++ recB l[i]).length ≤ 20 + 4400 * (i + 1); rw [List.length_append]; omega, (fun k hk => ⟨by rcases hk.1 with h | h; exact (hB k h).1; omega, fun e => by rcases hk.1 with h | h; exact (hB k h).2.1 e; omega, hk.2⟩), by rw [keys_step hi, List.map_append]; exact ((((M18.ext X75 (fun x => x)).ext Y76 (fun h => h.elim (fun h => (hB m h).2.1 rfl) (fun h => by omega))).ext N80.ext (fun x => x)).ext Y81 (fun h => h.elim (fun h => (hB m h).2.1 rfl) (fun h => by omega))), by rw [recB_T c78, ← List.append_assoc]; exact OwnO.mono G81 (fun _ h _ => h) (fun k h hlt => ⟨h, hlt⟩), (((((hX.trans X9).then X18 (fun k h _ => by have h : k = m := h; omega)).trans X75).then Y76 (fun k h _ => by rcases h with h | h; exact (hB k h).1; omega)).trans N80.ext).then Y81 (fun k h _ => by rcases h with h | h; exact (hB k h).1; omega)⟩ (by show l.length - (i + 1) < l.length - i; omega)).of ⟨rfl, rfl, rfl, rfl, rfl, trivial⟩
                      · refine .keep [(6, _), (9, _), (7, _), (34, _), (35, _), (36, _)] ⟨rfl, rfl, rfl, rfl, rfl, rfl, trivial⟩ (.mix ((fun k => B k ∨ w11.heap.size ≤ k)) [1, 2, 5, 6] (by kernel_rfl) (by kernel_rfl) (by kernel_rfl) ?_)
                        refine .p rfl rfl rfl (fun wx hx => .mv rfl) ?_
                        refine .v rfl rfl rfl (.lits rfl rfl (fun _ => by kernel_rfl)) (by rintro _ _ ⟨_, hN⟩; exact hN.ext0) ?_
                        rintro _ w83 ⟨rfl, N83⟩
                        have z83 := N83.size
                        refine .v rfl rfl rfl (.appendLo (t := tByte) (eb := 1) rfl (OwnO.ext0 G76 N83.ext) (fun k hk => by have hk : w83.heap.size ≤ k := hk; exact .inr (by omega)) rfl (one_holds (c := 0) N83) rfl rfl rfl rfl rfl rfl rfl (by simp; omega) (by simp [Lim]; omega) (fun _ h _ => h.elim)) (by rintro _ _ ⟨_, hx⟩; exact (N83.ext0).trans hx) ?_
                        rintro r84 w84 ⟨G84, Y84⟩
                        have z84 : w83.heap.size ≤ w84.heap.size := Y84.size
                        refine .p rfl rfl rfl (fun wx hx => .fieldAddr rfl rfl rfl rfl) ?_
                        refine .p rfl rfl rfl (fun wx hx => .load rfl rfl rfl ((B76.ext hx (fun h => h.elim (fun h => by have := (hB _ h).2.2; omega) (fun h => by omega))).cell 1)) ?_
                        refine .call (first := []) (captured := []) rfl rfl rfl rfl rfl (Text_fn (l := l[i].value) (by simp only [Lim]; omega) (by simp only [Lim]; omega)) (by rintro _ _ ⟨_, hx⟩; exact (N83.ext0.trans Y84).trans (hx.mono (fun _ _ h => h.elim))) ?_
                        rintro r87 w87 ⟨G87, X87⟩
                        have z87 : w84.heap.size ≤ w87.heap.size := X87.size
                        refine .v rfl rfl rfl (.appendLo (t := tByte) (eb := 1) rfl (OwnO.ext0 G84 X87) (fun k hk => by have hk : w87.heap.size ≤ k := hk; exact .inr (by omega)) rfl (Gr.holds (Gr.rep G87)) rfl rfl rfl rfl rfl rfl rfl (by simp; omega) (by simp [Lim]; omega) (fun _ h _ => h.elim)) (by rintro _ _ ⟨_, hx⟩; exact ((N83.ext0.trans Y84).trans (X87.mono (fun _ _ h => h.elim))).trans hx) ?_
                        rintro r88 w88 ⟨G88, Y88⟩
                        have z88 : w87.heap.size ≤ w88.heap.size := Y88.size
                        refine .p rfl rfl rfl (fun wx hx => .as rfl) ?_
                        refine .nil (.blk (.code (.keep [(6, _), (7, _), (34, _), (35, _), (36, _)] ⟨rfl, rfl, rfl, rfl, rfl, trivial⟩ (.region ?_))))
                        refine .p rfl rfl (.add rfl rfl (by omega)) ?_
                        refine .p rfl rfl (.mv rfl) ?_
                        refine .nil ?_
                        exact (again (i + 1, acc ++ recB l[i], _, (fun k => (B k ∨ w11.heap.size ≤ k) ∧ k < w88.heap.size), w88) ⟨by show i + 1 ≤ l.length; omega, by rw [keys_step hi]; exact chg_ok hi hchg hone, by show acc ++ recB l[i] = _; rw [recs_step hi, hacc, List.append_assoc], by have := recB_len k2 k3; show (acc ++ recB l[i]).length ≤ 20 + 4400 * (i + 1); rw [List.length_append]; omega, (fun k hk => ⟨by rcases hk.1 with h | h; exact (hB k h).1; omega, fun e => by rcases hk.1 with h | h; exact (hB k h).2.1 e; omega, hk.2⟩), by rw [keys_step hi, List.map_append]; exact ((((((M18.ext X75 (fun x => x)).ext Y76 (fun h => h.elim (fun h => (hB m h).2.1 rfl) (fun h => by omega))).ext N83.ext (fun x => x)).ext Y84 (fun h => h.elim (fun h => (hB m h).2.1 rfl) (fun h => by omega))).ext X87 (fun x => x)).ext Y88 (fun h => h.elim (fun h => (hB m h).2.1 rfl) (fun h => by omega))), by rw [recB_F c78, ← List.append_assoc, List.append_cons]; exact OwnO.mono G88 (fun _ h _ => h) (fun k h hlt => ⟨h, hlt⟩), (((((((hX.trans X9).then X18 (fun k h _ => by have h : k = m := h; omega)).trans X75).then Y76 (fun k h _ => by rcases h with h | h; exact (hB k h).1; omega)).trans N83.ext).then Y84 (fun k h _ => by rcases h with h | h; exact (hB k h).1; omega)).trans X87).then Y88 (fun k h _ => by rcases h with h | h; exact (hB k h).1; omega)⟩ (by show l.length - (i + 1) < l.length - i; omega)).of ⟨rfl, rfl, rfl, rfl, rfl, trivial⟩
          · obtain rfl : i = l.length := by omega
            obtain ⟨a6, c6, rfl, hc6⟩ := OwnO.val hG
            rw [List.take_length] at hacc
            rw [List.drop_length] at hchg
            have hc0 : chgC [] l = 0 := hchg
            have hbody : bodyC l seq = acc := hacc.symm
            refine .exit rfl (.code (.seq (.seq (.keep [(6, _)] ⟨rfl, trivial⟩ (.region ?_)))))
            refine .p rfl rfl (.mv rfl) ?_
            refine .p rfl rfl (.len rfl rfl) ?_
            refine .p rfl rfl (.gt rfl rfl) ?_
            refine .nil (.code (.keep [(92, _), (6, _)] ⟨rfl, rfl, trivial⟩ ?_))
            refine .condD rfl (fun c92 => ?_) (fun c92 => ?_)
            · refine .seq (.keep [] trivial (.region ?_))
              refine .p rfl rfl (.as rfl) ?_
              refine .p rfl rfl (.as rfl) ?_
              refine .nil (.code ?_)
              refine .ret _ rfl ?_
              rw [wF_3 hsq h64 hne hc0 (by rw [hbody]; omega)]
              exact ⟨rfl, hX⟩
            · refine .skip (.code (.seq (.keep [(6, _)] ⟨rfl, trivial⟩ (.region ?_))))
              refine .p rfl rfl (.mv rfl) ?_
              refine .p rfl rfl (.bytesStr rfl (OwnO.rep hG (R := All) (fun _ _ _ => trivial) (fun _ h _ => h.elim)) rfl rfl rfl) ?_
              refine .p rfl rfl (.as rfl) ?_
              refine .p rfl rfl (.as rfl) ?_
              refine .nil (.code ?_)
              refine .ret _ rfl ?_
              rw [wF_0 hsq h64 hne hc0 (by rw [hbody]; omega), hbody]
              exact ⟨rfl, hX⟩
end Go.Proofs.YthliepcjfnjnoaaGreatDoor
namespace Go.Proofs.YthliepcjfnjnoaaGreatDoor
open Go page tree
theorem run_equal_nil_iface {P : Program} {T tp : TypeId} {u : Value} {ms : Array (String × TypeId)} (hT : P.underlying T = some (.interface ms)) (w : World) : (Op.equal T .nilIface (.iface tp u)).run P w = .ok false w := by
  have h : ∀ d : Nat, (Op.equalIn (d + 1) T .nilIface (.iface tp u)).run P w = .ok false w := fun d => by simp [Op.equalIn, run_underlying hT]
  simp [Op.equal, Op.maxDepth, h 9999]
theorem Ev.eqNilN {P : Program} {e : Env} {w : World} {x : Operand} {T T' : TypeId} {ms : Array (String × TypeId)} (hx : look e x = some .nilIface) (hT : P.underlying T = some (.interface ms)) : Ev P e (.binOp .eql T x (.const .nilIface) T') w (.bool true) :=
  fun w' _ ρ hρ o ho => by
    have h1 := hρ _ _ hx
    have h2 : ρ (.const .nilIface) = .nilIface := hρ _ _ rfl
    simp [execOp, ho, h1, h2, eqGuard, binOp, run_equal_nil hT, Sem.run_bind]
theorem Ev.eqNilI {P : Program} {e : Env} {w : World} {x y : Operand} {T T' tp : TypeId} {u : Value} {ms : Array (String × TypeId)} (hx : look e x = some .nilIface) (hy : look e y = some (.iface tp u)) (hT : P.underlying T = some (.interface ms)) : Ev P e (.binOp .eql T x y T') w (.bool false) :=
  fun w' _ ρ hρ o ho => by
    have h1 := hρ _ _ hx
    have h2 := hρ _ _ hy
    simp [execOp, ho, h1, h2, eqGuard, binOp, run_equal_nil_iface hT, Sem.run_bind]
theorem at0_fn {w : World} {s : Bs} : Fn Tryz.prog 55 [str s, i64 0] w (fun r w2 => r = .nilIface ∧ Ext (fun _ => False) w w2) := by
  refine Fn.enter (fun w => Tryz.call55 _ w) Tryz.func55 rfl ?_
  refine .seq (.region ?_)
  refine .p rfl rfl (.as rfl) ?_
  refine .nil (.code (.seq (.seq (.keep [(0, _), (1, _)] ⟨rfl, rfl, trivial⟩ (.region ?_)))))
  refine .p rfl rfl (.mv rfl) ?_
  refine .p rfl rfl (.yes (.eq rfl rfl) (rfl)) ?_
  refine .nil (.code (.keep [(6, _), (0, _), (1, _)] ⟨rfl, rfl, rfl, trivial⟩ (.condT rfl (.seq (.keep [] trivial (.region ?_))))))
  refine .p rfl rfl (.as rfl) ?_
  refine .nil (.code ?_)
  refine .ret _ rfl ?_
  exact ⟨rfl, .refl _⟩
theorem IsNil_fn {w : World} {tp : TypeId} {u : Value} : Fn Tryz.prog 56 [.nilIface, .iface tp u] w (fun r w2 => r = .bool false ∧ Ext (fun _ => False) w w2) := by
  refine Fn.enter (fun w => Tryz.call56 _ w) Tryz.func56 rfl ?_
  refine .seq (.region ?_)
  refine .p rfl rfl (.as rfl) ?_
  refine .nil (.code (.seq (.seq (.keep [(0, _), (1, _)] ⟨rfl, rfl, trivial⟩ (.region ?_)))))
  refine .p rfl rfl (.mv rfl) ?_
  refine .p rfl rfl (.eqNilN rfl rfl) ?_
  refine .p rfl rfl (.mv rfl) ?_
  refine .skip rfl rfl ?_
  refine .skip rfl rfl ?_
  refine .p rfl rfl (.pickT rfl rfl) ?_
  refine .nil (.code (.keep [(11, _), (0, _), (1, _)] ⟨rfl, rfl, rfl, trivial⟩ (.condT rfl (.seq (.keep [(0, _), (1, _)] ⟨rfl, rfl, trivial⟩ (.region ?_))))))
  refine .p rfl rfl (.mv rfl) ?_
  refine .p rfl rfl (.mv rfl) ?_
  refine .p rfl rfl (.eqNilI rfl rfl rfl) ?_
  refine .p rfl rfl (.as rfl) ?_
  refine .nil (.code ?_)
  refine .ret _ rfl ?_
  exact ⟨rfl, .refl _⟩
end Go.Proofs.YthliepcjfnjnoaaGreatDoor
namespace Go.Proofs.YthliepcjfnjnoaaGreatDoor
open Go
namespace page
abbrev RS := Bs × Bool
def numP (m : Nat) (s : RS) : Nat × RS := if ¬ (readF s.1).2.2 = 0 ∨ m < (readF s.1).1 then (0, (s.1, true)) else ((readF s.1).1, (s.1.drop (readF s.1).2.1, s.2))
def textP (s : RS) : Bs × RS := ((cutF s.1).1, ((cutF s.1).2.1, s.2 || decide (¬ (cutF s.1).2.2 = 0)))
def flagP (s : RS) : UInt8 × RS := match s.1 with
  | [] => (0, ([], true))
  | x :: r => (x, (r, s.2))
theorem numP_le (m : Nat) (s : RS) : (numP m s).1 ≤ m ∧ (numP m s).2.1.length ≤ s.1.length := by
  unfold numP
  split
  · exact ⟨Nat.zero_le _, Nat.le_refl _⟩
  · rename_i h
    refine ⟨by show (readF s.1).1 ≤ m; omega, ?_⟩
    show (s.1.drop _).length ≤ _
    rw [List.length_drop]
    omega
theorem cutF_le (b : Bs) : (cutF b).1.length + (cutF b).2.1.length ≤ b.length := by
  unfold cutF
  split
  · exact Nat.zero_le _
  · rename_i h
    show (List.take _ _).length + (List.drop _ _).length ≤ _
    simp only [List.length_take, List.length_drop]
    omega
theorem textP_le (s : RS) : (textP s).1.length + (textP s).2.1.length ≤ s.1.length := cutF_le s.1
end page
theorem sumTo_cons (c : UInt8) (b : Bs) : ∀ i, sumTo (c :: b) (i + 1) = c.toNat % 128 + 128 * sumTo b i
  | 0 => by simp [sumTo]
  | i + 1 => by
    rw [sumTo, sumTo_cons c b i, sumTo, List.getD_cons_succ, Nat.pow_succ, Nat.mul_add]
    have : (b.getD i 0).toNat % 128 * (128 ^ i * 128) = 128 * ((b.getD i 0).toNat % 128 * 128 ^ i) := by
      rw [Nat.mul_comm (128 ^ i) 128, Nat.mul_left_comm]
    omega
theorem lead_big {c : UInt8} {b : Bs} (h : 128 ≤ c.toNat) : leadN (c :: b) = leadN b + 1 := by
  unfold leadN
  rw [List.takeWhile_cons, if_pos (by simpa using h)]
  rfl
theorem lead_low {c : UInt8} {b : Bs} (h : c.toNat < 128) : leadN (c :: b) = 0 := by
  unfold leadN
  rw [List.takeWhile_cons, if_neg (by simpa using h)]
  rfl
theorem small_back : ∀ (f n : Nat) (r : Bs), n < 128 ^ (f + 1) → ∃ k, (smallK (f + 1) n).length = k + 1 ∧ leadN (smallK (f + 1) n ++ r) = k ∧ sumTo (smallK (f + 1) n ++ r) (k + 1) = n ∧ (1 ≤ n → ((smallK (f + 1) n ++ r).getD k 0).toNat ≠ 0) ∧ (k ≠ 0 → 1 ≤ n) ∧ ((smallK (f + 1) n ++ r).getD k 0).toNat * 128 ^ k ≤ n := by
  have low : ∀ (f n : Nat) (r : Bs), n ≤ 127 → ∃ k, (smallK (f + 1) n).length = k + 1 ∧ leadN (smallK (f + 1) n ++ r) = k ∧ sumTo (smallK (f + 1) n ++ r) (k + 1) = n ∧ (1 ≤ n → ((smallK (f + 1) n ++ r).getD k 0).toNat ≠ 0) ∧ (k ≠ 0 → 1 ≤ n) ∧ ((smallK (f + 1) n ++ r).getD k 0).toNat * 128 ^ k ≤ n := by
    intro f n r h
    have e : smallK (f + 1) n = [UInt8.ofNat n] := by rw [smallK, if_pos h]
    have e1 : (UInt8.ofNat n).toNat = n := by
      rw [UInt8.toNat_ofNat']
      omega
    refine ⟨0, by rw [e]; rfl, ?_, ?_, ?_, fun h => absurd rfl h, ?_⟩
    · rw [e]; exact lead_low (by omega)
    · rw [e, List.singleton_append, sumTo_cons, e1, sumTo]; omega
    · rw [e]; show 1 ≤ n → (UInt8.ofNat n).toNat ≠ 0; omega
    · rw [e]; show (UInt8.ofNat n).toNat * 1 ≤ n; omega
  intro f
  induction f with
  | zero => intro n r h; exact low 0 n r (by omega)
  | succ f ih =>
    intro n r h
    by_cases hn : n ≤ 127
    · exact low (f + 1) n r hn
    · have e : smallK (f + 1 + 1) n = UInt8.ofNat (n % 128 + 128) :: smallK (f + 1) (n / 128) := by rw [smallK, if_neg hn]
      have e1 : (UInt8.ofNat (n % 128 + 128)).toNat = n % 128 + 128 := by
        rw [UInt8.toNat_ofNat']
        omega
      obtain ⟨k, h1, h2, h3, h4, h5, h6⟩ := ih (n / 128) r (by rw [Nat.pow_succ] at h; omega)
      refine ⟨k + 1, by rw [e, List.length_cons, h1], ?_, ?_, ?_, fun _ => by omega, ?_⟩
      · rw [e, List.cons_append, lead_big (by omega), h2]
      · rw [e, List.cons_append, sumTo_cons, h3, e1]
        omega
      · rw [e, List.cons_append, List.getD_cons_succ]
        intro _
        exact h4 (by omega)
      · rw [e, List.cons_append, List.getD_cons_succ, Nat.pow_succ, ← Nat.mul_assoc]
        have := Nat.mul_le_mul_right 128 h6
        omega
theorem read_small {n : Nat} (r : Bs) (h : n < 18446744073709551616) : readF (smallF n ++ r) = (n, (smallF n).length, 0) := by
  have h10 : (128 : Nat) ^ (9 + 1) = 1180591620717411303424 := by decide
  obtain ⟨k, h1, h2, h3, h4, h5, h6⟩ := small_back 9 n r (by omega)
  have hl := smallF_length n
  have e : smallF n = smallK (9 + 1) n := rfl
  rw [← e] at h1 h2 h3 h4 h6
  have ok : readOk (smallF n ++ r) := by
    unfold readOk
    rw [h2]
    refine ⟨by rw [List.length_append]; omega, by omega, fun hx => ?_, fun hx => h4 (h5 (by omega)) hx.2⟩
    obtain ⟨rfl, h8⟩ := hx
    have h7 : (128 : Nat) ^ 9 = 9223372036854775808 := by decide
    rw [h7] at h6
    omega
  unfold readF
  rw [if_pos ok, h2, h3, h1]
theorem cut_text {s : Bs} (r : Bs) (h : s.length < 18446744073709551616) : cutF (textF s ++ r) = (s, r, 0) := by
  have e : readF (textF s ++ r) = (s.length, (smallF s.length).length, 0) := by unfold textF; rw [List.append_assoc]; exact read_small _ h
  have e2 : (textF s ++ r).drop (smallF s.length).length = s ++ r := by unfold textF; rw [List.append_assoc, List.drop_left]
  unfold cutF
  rw [e, if_neg]
  · simp only
    rw [e2, List.take_left, List.drop_left]
  · simp only [List.length_append, textF]
    rintro (h1 | h1)
    · exact h1 trivial
    · omega
namespace page
theorem numP_small {n m : Nat} (r : Bs) (x : Bool) (h : n < 18446744073709551616) (hm : n ≤ m) : numP m (smallF n ++ r, x) = (n, (r, x)) := by
  unfold numP
  simp only [read_small r h]
  rw [if_neg (fun hx => hx.elim (fun h => h trivial) (by omega)), List.drop_left]
theorem textP_text {s : Bs} (r : Bs) (x : Bool) (h : s.length < 18446744073709551616) : textP (textF s ++ r, x) = (s, (r, x)) := by
  unfold textP
  simp only [cut_text r h]
  simp
end page
end Go.Proofs.YthliepcjfnjnoaaGreatDoor
