/-
  The document's own tree.Write; two lists of changes compared.
-/
import Derived.Test.YtlkidbafmgmhdaaTWrite
import Derived.Test.YtlkidbafmgmhdaaRef01c
set_option linter.unusedVariables false
set_option linter.unusedSimpArgs false
set_option maxRecDepth 20000
namespace Go.Proofs.Ytlkidbafmgmhdaa
open Go tree
theorem tree.chg_all : ∀ {l : List Change} {seen : List Bs}, chgC seen l = 0 → ∀ {i : Nat} (h : i < l.length), l[i].key ≠ [] ∧ l[i].key.length ≤ 256 ∧ l[i].value.length ≤ 4096
  | [], _, _, i, h => absurd h (Nat.not_lt_zero _)
  | c :: r, seen, hc, i, h => by
    rw [chgC] at hc
    split at hc
    · rename_i h1; exact absurd hc h1
    · rename_i h1
      cases i with
      | zero =>
        obtain ⟨k1, k2, k3, _⟩ := oneC_ok (Decidable.not_not.1 h1)
        exact ⟨k1, k2, k3⟩
      | succ i => exact tree.chg_all hc (by simpa using h)
theorem Changed_fn {w : World} {v : Value} {l : List Change} (h : (Sl tChange).rep All w v l) : Fn Try.prog 12 [v] w (fun r w2 => r = i64 (chgC [] l) ∧ Ext (fun _ => False) w w2) := by
  obtain ⟨a, cap, rfl, hcap⟩ := Sl.val h
  have hlim := Sl.lim h
  simp only [Lim] at hlim
  refine Fn.enter (fun w => Try.call12 _ w) Try.func12 rfl ?_
  refine .seq (.region ?_)
  refine .p rfl rfl (.as rfl) ?_
  refine .nil (.code (.seq (.seq (.keep [(0, _)] ⟨rfl, trivial⟩ (.region ?_)))))
  refine .p rfl rfl (.as rfl) ?_
  refine .nil (.code (.block ?_))
  refine .loop (S := Nat) (fun s => [(0, .slice a l.length cap), (3, i64 s)]) (fun s => w) (fun s => s ≤ l.length ∧ chgC [] l = chgC ((l.take s).map (·.key)) (l.drop s)) (fun s => l.length - s) 0 ⟨rfl, rfl, trivial⟩ rfl ⟨Nat.zero_le _, rfl⟩ ?_
  rintro i J ⟨hi', hchg⟩ again
  refine .seq (.seq (.region ?_))
  refine .p rfl rfl (.mv rfl) ?_
  refine .p rfl rfl (.mv rfl) ?_
  refine .p rfl rfl (.len rfl rfl) ?_
  refine .p rfl rfl (.lt rfl rfl) ?_
  refine .nil (.code (.keep [(8, _), (0, _), (3, _)] ⟨rfl, rfl, rfl, trivial⟩ ?_))
  refine .condD rfl (fun c8 => ?_) (fun c8 => ?_)
  · have hi : i < l.length := by omega
    obtain ⟨b0, o0, c0, ue, e, _, hcs, hre⟩ := Sl.at h (List.getElem?_eq_getElem hi)
    cases e
    obtain ⟨rfl, h1, h2⟩ := tChange.val hre
    have hlen0 : (l[i].key = []) ↔ l[i].key.length = 0 := List.length_eq_zero_iff.symm
    refine .skip (.code (.seq (.block (.seq (.seq (.keep [(0, _), (3, _)] ⟨rfl, rfl, trivial⟩ (.region ?_)))))))
    refine .p rfl rfl (.mv rfl) ?_
    refine .p rfl rfl (.mv rfl) ?_
    refine .p rfl rfl (.indexAddr (s := 3) rfl rfl rfl rfl (by omega)) ?_
    refine .p rfl rfl (.fieldAddr rfl rfl rfl rfl) ?_
    refine .p rfl rfl (.load rfl rfl rfl (hcs 0 _ rfl)) ?_
    refine .p rfl rfl (.lenS rfl rfl) ?_
    refine .p rfl rfl (.lt rfl rfl) ?_
    refine .p rfl rfl (.mv rfl) ?_
    refine .caseD 18 rfl (fun c18 => ?_) (fun c18 => ?_)
    · refine .skip rfl rfl ?_
      refine .skip rfl rfl ?_
      refine .skip rfl rfl ?_
      refine .skip rfl rfl ?_
      refine .skip rfl rfl ?_
      refine .skip rfl rfl ?_
      refine .skip rfl rfl ?_
      refine .p rfl rfl (.pickT rfl rfl) ?_
      refine .nil (.code (.keep [(26, _), (0, _), (3, _)] ⟨rfl, rfl, rfl, trivial⟩ (.condT rfl (.seq (.keep [] trivial (.region ?_))))))
      refine .p rfl rfl (.as rfl) ?_
      refine .nil (.code ?_)
      refine .ret _ rfl ?_
      rw [chg_err hi hchg (e := 60) (by unfold oneC; rw [if_pos (.inl (hlen0.2 (by omega)))]) (by decide)]
      exact ⟨rfl, .refl _⟩
    · refine .p rfl rfl (.mv rfl) ?_
      refine .p rfl rfl (.mv rfl) ?_
      refine .p rfl rfl (.indexAddr (s := 3) rfl rfl rfl rfl (by omega)) ?_
      refine .p rfl rfl (.fieldAddr rfl rfl rfl rfl) ?_
      refine .p rfl rfl (.load rfl rfl rfl (hcs 0 _ rfl)) ?_
      refine .p rfl rfl (.lenS rfl rfl) ?_
      refine .p rfl rfl (.gt rfl rfl) ?_
      refine .p rfl rfl (.pickF rfl rfl) ?_
      refine .nil (.code (.keep [(26, _), (0, _), (3, _)] ⟨rfl, rfl, rfl, trivial⟩ ?_))
      refine .condD rfl (fun c26 => ?_) (fun c26 => ?_)
      · refine .seq (.keep [] trivial (.region ?_))
        refine .p rfl rfl (.as rfl) ?_
        refine .nil (.code ?_)
        refine .ret _ rfl ?_
        rw [chg_err hi hchg (e := 60) (by unfold oneC; rw [if_pos (.inr (by omega))]) (by decide)]
        exact ⟨rfl, .refl _⟩
      · refine .skip (.code (.seq (.seq (.keep [(0, _), (3, _)] ⟨rfl, rfl, trivial⟩ (.region ?_)))))
        refine .p rfl rfl (.mv rfl) ?_
        refine .p rfl rfl (.mv rfl) ?_
        refine .p rfl rfl (.indexAddr (s := 3) rfl rfl rfl rfl (by omega)) ?_
        refine .p rfl rfl (.fieldAddr rfl rfl rfl rfl) ?_
        refine .p rfl rfl (.load rfl rfl rfl (hcs 1 _ rfl)) ?_
        refine .p rfl rfl (.lenS rfl rfl) ?_
        refine .p rfl rfl (.gt rfl rfl) ?_
        refine .nil (.code (.keep [(33, _), (0, _), (3, _)] ⟨rfl, rfl, rfl, trivial⟩ ?_))
        refine .condD rfl (fun c33 => ?_) (fun c33 => ?_)
        · refine .seq (.keep [] trivial (.region ?_))
          refine .p rfl rfl (.as rfl) ?_
          refine .nil (.code ?_)
          refine .ret _ rfl ?_
          rw [chg_err hi hchg (e := 3) (by unfold oneC; rw [if_neg (fun h => h.elim (fun e => by have := hlen0.1 e; omega) (by omega)), if_pos (by omega)]) (by decide)]
          exact ⟨rfl, .refl _⟩
        · refine .skip (.code (.seq (.seq (.keep [(0, _), (3, _)] ⟨rfl, rfl, trivial⟩ ?_))))
          refine .meet (S := Bool) (fun s => [(0, .slice (some ⟨b0, o0, none⟩) l.length cap), (3, i64 i), (46, .bool s)]) (fun s => w) (fun s => s = decide (l[i].gone = true ∧ ¬ l[i].value = [])) ?_ ?_
          · rintro _ rfl
            refine .code ?_
            refine .condD rfl (fun c46 => ?_) (fun c46 => ?_)
            · refine .seq (.keep [] trivial (.region ?_))
              refine .p rfl rfl (.as rfl) ?_
              refine .nil (.code ?_)
              refine .ret _ rfl ?_
              rw [chg_err hi hchg (e := 8) (by unfold oneC; rw [if_neg (fun h => h.elim (fun e => by have := hlen0.1 e; omega) (by omega)), if_neg (by omega), if_pos (.inl c46)]) (by decide)]
              exact ⟨rfl, .refl _⟩
            · refine .skip (.code (.seq (.keep [(0, _), (3, _)] ⟨rfl, rfl, trivial⟩ (.region ?_))))
              refine .p rfl rfl (.as rfl) ?_
              refine .nil (.code (.block ?_))
              refine .loop (S := Nat) (fun s => [(0, .slice (some ⟨b0, o0, none⟩) l.length cap), (3, i64 i), (4, i64 s)]) (fun s => w) (fun s => s ≤ i ∧ ∀ j (h : j < l.length), j < s → ¬ l[j].key = l[i].key) (fun s => i - s) 0 ⟨rfl, rfl, rfl, trivial⟩ rfl ⟨Nat.zero_le _, fun j _ h => absurd h (Nat.not_lt_zero _)⟩ ?_
              rintro k J2 ⟨hk, hno⟩ again2
              refine .seq (.seq (.region ?_))
              refine .p rfl rfl (.mv rfl) ?_
              refine .p rfl rfl (.mv rfl) ?_
              refine .p rfl rfl (.lt rfl rfl) ?_
              refine .nil (.code (.keep [(49, _), (0, _), (3, _), (4, _)] ⟨rfl, rfl, rfl, rfl, trivial⟩ ?_))
              refine .condD rfl (fun c49 => ?_) (fun c49 => ?_)
              · have hkl : k < l.length := by omega
                obtain ⟨b9, o9, c9, uk, ek, _, hck, hrk⟩ := Sl.at h (List.getElem?_eq_getElem hkl)
                cases ek
                obtain ⟨rfl, g1, g2⟩ := tChange.val hrk
                refine .skip (.code (.seq (.block (.seq (.keep [(0, _), (3, _), (4, _)] ⟨rfl, rfl, rfl, trivial⟩ (.mix (fun _ => False) [] (by kernel_rfl) (by kernel_rfl) (by kernel_rfl) ?_))))))
                refine .p rfl rfl rfl (fun wx hx => .mv rfl) ?_
                refine .p rfl rfl rfl (fun wx hx => .mv rfl) ?_
                refine .p rfl rfl rfl (fun wx hx => .indexAddr (s := 3) rfl rfl rfl rfl (by omega)) ?_
                refine .p rfl rfl rfl (fun wx hx => .fieldAddr rfl rfl rfl rfl) ?_
                refine .p rfl rfl rfl (fun wx hx => .load rfl rfl rfl (hck.ext (S := fun _ => False) hx (fun x => x) 0 _ rfl)) ?_
                refine .p rfl rfl rfl (fun wx hx => .mv rfl) ?_
                refine .p rfl rfl rfl (fun wx hx => .mv rfl) ?_
                refine .p rfl rfl rfl (fun wx hx => .indexAddr (s := 3) rfl rfl rfl rfl (by omega)) ?_
                refine .p rfl rfl rfl (fun wx hx => .fieldAddr rfl rfl rfl rfl) ?_
                refine .p rfl rfl rfl (fun wx hx => .load rfl rfl rfl (hcs.ext (S := fun _ => False) hx (fun x => x) 0 _ rfl)) ?_
                refine .p rfl rfl rfl (fun wx hx => .eqS rfl rfl) ?_
                refine .nil (.code (.keep [(62, _), (0, _), (3, _), (4, _)] ⟨rfl, rfl, rfl, rfl, trivial⟩ ?_))
                refine .condD rfl (fun c62 => ?_) (fun c62 => ?_)
                · refine .seq (.keep [] trivial (.region ?_))
                  refine .p rfl rfl (.as rfl) ?_
                  refine .nil (.code ?_)
                  refine .ret _ rfl ?_
                  rw [chg_err hi hchg (e := 8) (by unfold oneC; rw [if_neg (fun h => h.elim (fun e => by have := hlen0.1 e; omega) (by omega)), if_neg (by omega), if_pos (.inr (List.mem_map.2 ⟨l[k], List.mem_take_iff_getElem.2 ⟨k, by omega, rfl⟩, c62⟩))]) (by decide)]
                  exact ⟨rfl, .refl _⟩
                · refine .skip (.blk (.code (.keep [(0, _), (3, _), (4, _)] ⟨rfl, rfl, rfl, trivial⟩ (.region ?_))))
                  refine .p rfl rfl (.mv rfl) ?_
                  refine .p rfl rfl (.add rfl rfl (by omega)) ?_
                  refine .p rfl rfl (.as rfl) ?_
                  refine .nil ?_
                  exact (again2 (k + 1) ⟨by omega, (fun j hj hlt => by
                    rcases Nat.lt_or_ge j k with h2 | h2
                    · exact hno j hj h2
                    · have : j = k := by omega
                      subst this
                      exact c62)⟩ (by show i - (k + 1) < i - k; omega)).of ⟨rfl, rfl, rfl, trivial⟩
              · have hone : oneC ((l.take i).map (·.key)) l[i] = 0 := by
                  unfold oneC
                  rw [if_neg (fun h => h.elim (fun e => by have := hlen0.1 e; omega) (by omega)), if_neg (by omega), if_neg]
                  rintro (h | h)
                  · exact c46 h
                  · obtain ⟨x, hx, hxe⟩ := List.mem_map.1 h
                    obtain ⟨j, hj, rfl⟩ := List.getElem_of_mem hx
                    rw [List.length_take] at hj
                    rw [List.getElem_take] at hxe
                    exact hno j (by omega) (by omega) hxe
                refine .exit rfl (.blk (.code (.keep [(0, _), (3, _)] ⟨rfl, rfl, trivial⟩ (.region ?_))))
                refine .p rfl rfl (.mv rfl) ?_
                refine .p rfl rfl (.add rfl rfl (by omega)) ?_
                refine .p rfl rfl (.as rfl) ?_
                refine .nil ?_
                exact (again (i + 1) ⟨by omega, by rw [keys_step hi]; exact chg_ok hi hchg hone⟩ (by show l.length - (i + 1) < l.length - i; omega)).of ⟨rfl, rfl, trivial⟩
          · intro meet
            refine .region ?_
            refine .p rfl rfl (.mv rfl) ?_
            refine .p rfl rfl (.mv rfl) ?_
            refine .p rfl rfl (.indexAddr (s := 3) rfl rfl rfl rfl (by omega)) ?_
            refine .p rfl rfl (.fieldAddr rfl rfl rfl rfl) ?_
            refine .p rfl rfl (.load rfl rfl rfl (hcs 2 _ rfl)) ?_
            refine .p rfl rfl (.mv rfl) ?_
            refine .case 39 rfl (fun c39 => ?_) (fun c39 => ?_)
            · refine .p rfl rfl (.mv rfl) ?_
              refine .p rfl rfl (.mv rfl) ?_
              refine .p rfl rfl (.indexAddr (s := 3) rfl rfl rfl rfl (by omega)) ?_
              refine .p rfl rfl (.fieldAddr rfl rfl rfl rfl) ?_
              refine .p rfl rfl (.load rfl rfl rfl (hcs 1 _ rfl)) ?_
              refine .p rfl rfl (.neS rfl rfl) ?_
              refine .p rfl rfl (.pickT rfl rfl) ?_
              refine .nil ?_
              exact (meet _ (decide_eq_decide.2 ⟨fun h => ⟨c39, h⟩, fun h => h.2⟩)).of ⟨rfl, rfl, rfl, trivial⟩
            · refine .skip rfl rfl ?_
              refine .skip rfl rfl ?_
              refine .skip rfl rfl ?_
              refine .skip rfl rfl ?_
              refine .skip rfl rfl ?_
              refine .skip rfl rfl ?_
              refine .p rfl rfl (.pickF rfl rfl) ?_
              refine .nil ?_
              exact (meet false (decide_eq_false (fun h => by rw [c39] at h; exact Bool.false_ne_true h.1)).symm).of ⟨rfl, rfl, rfl, trivial⟩
  · obtain rfl : i = l.length := by omega
    rw [List.drop_length] at hchg
    have hc0 : chgC [] l = 0 := hchg
    refine .exit rfl (.code (.seq (.keep [] trivial (.region ?_))))
    refine .p rfl rfl (.as rfl) ?_
    refine .nil (.code ?_)
    refine .ret _ rfl ?_
    rw [hc0]
    exact ⟨rfl, .refl _⟩
theorem RefTWrite_fn {w : World} {v : Value} {l : List Change} {seq : Int} (h : (Sl tChange).rep All w v l) : Fn Try.prog 6 [v, i64 seq] w (fun r w2 => r = .tuple #[str (wF l seq).1, i64 (wF l seq).2] ∧ Ext (fun _ => False) w w2) := by
  obtain ⟨a, cap, rfl, hcap⟩ := Sl.val h
  refine Fn.enter (fun w => Try.call6 _ w) Try.func6 rfl ?_
  refine .seq (.region ?_)
  refine .p rfl rfl (.as rfl) ?_
  refine .p rfl rfl (.as rfl) ?_
  refine .nil (.code (.seq (.seq (.keep [(0, _), (1, _)] ⟨rfl, rfl, trivial⟩ (.region ?_)))))
  refine .p rfl rfl (.mv rfl) ?_
  refine .p rfl rfl (.lt rfl rfl) ?_
  refine .p rfl rfl (.mv rfl) ?_
  refine .caseD 11 rfl (fun c11 => ?_) (fun c11 => ?_)
  · refine .skip rfl rfl ?_
    refine .skip rfl rfl ?_
    refine .p rfl rfl (.pickT rfl rfl) ?_
    refine .nil (.code (.keep [(14, _), (0, _), (1, _)] ⟨rfl, rfl, rfl, trivial⟩ (.condT rfl (.seq (.keep [] trivial (.region ?_))))))
    refine .p rfl rfl (.as rfl) ?_
    refine .p rfl rfl (.as rfl) ?_
    refine .nil (.code ?_)
    refine .ret _ rfl ?_
    rw [wF_2 (by omega)]
    exact ⟨rfl, .refl _⟩
  · refine .p rfl rfl (.mv rfl) ?_
    refine .p rfl rfl (.gt rfl rfl) ?_
    refine .p rfl rfl (.pickF rfl rfl) ?_
    refine .nil (.code (.keep [(14, _), (0, _), (1, _)] ⟨rfl, rfl, rfl, trivial⟩ ?_))
    refine .condD rfl (fun c14 => ?_) (fun c14 => ?_)
    · refine .seq (.keep [] trivial (.region ?_))
      refine .p rfl rfl (.as rfl) ?_
      refine .p rfl rfl (.as rfl) ?_
      refine .nil (.code ?_)
      refine .ret _ rfl ?_
      rw [wF_2 (by omega)]
      exact ⟨rfl, .refl _⟩
    · refine .skip (.code (.seq (.seq (.keep [(0, _), (1, _)] ⟨rfl, rfl, trivial⟩ (.region ?_)))))
      refine .p rfl rfl (.mv rfl) ?_
      refine .p rfl rfl (.len rfl rfl) ?_
      refine .p rfl rfl (.gt rfl rfl) ?_
      refine .nil (.code (.keep [(17, _), (0, _), (1, _)] ⟨rfl, rfl, rfl, trivial⟩ ?_))
      refine .condD rfl (fun c17 => ?_) (fun c17 => ?_)
      · refine .seq (.keep [] trivial (.region ?_))
        refine .p rfl rfl (.as rfl) ?_
        refine .p rfl rfl (.as rfl) ?_
        refine .nil (.code ?_)
        refine .ret _ rfl ?_
        rw [wF_4 (by omega) (by omega)]
        exact ⟨rfl, .refl _⟩
      · refine .skip (.code (.seq (.seq (.keep [(0, _), (1, _)] ⟨rfl, rfl, trivial⟩ (.region ?_)))))
        refine .p rfl rfl (.mv rfl) ?_
        refine .p rfl rfl (.len rfl rfl) ?_
        refine .p rfl rfl (.eq rfl rfl) ?_
        refine .nil (.code (.keep [(20, _), (0, _), (1, _)] ⟨rfl, rfl, rfl, trivial⟩ ?_))
        refine .condD rfl (fun c20 => ?_) (fun c20 => ?_)
        · refine .seq (.keep [] trivial (.region ?_))
          refine .p rfl rfl (.as rfl) ?_
          refine .p rfl rfl (.as rfl) ?_
          refine .nil (.code ?_)
          refine .ret _ rfl ?_
          rw [wF_6 (by omega) (by omega)]
          exact ⟨rfl, .refl _⟩
        · refine .skip (.code (.seq (.keep [(0, _), (1, _)] ⟨rfl, rfl, trivial⟩ (.region ?_))))
          refine .p rfl rfl (.mv rfl) ?_
          refine .call (first := []) (captured := []) rfl rfl rfl rfl (Changed_fn h) ?_
          rintro _ w22 ⟨rfl, X22⟩
          have z22 : w.heap.size ≤ w22.heap.size := X22.size
          refine .p rfl rfl (.as rfl) ?_
          refine .nil (.code (.seq (.seq (.keep [(6, _), (0, _), (1, _)] ⟨rfl, rfl, rfl, trivial⟩ (.region ?_)))))
          refine .p rfl rfl (.mv rfl) ?_
          refine .p rfl rfl (.ne rfl rfl) ?_
          refine .nil (.code (.keep [(24, _), (6, _), (0, _), (1, _)] ⟨rfl, rfl, rfl, rfl, trivial⟩ ?_))
          refine .condD rfl (fun c24 => ?_) (fun c24 => ?_)
          · refine .seq (.keep [(6, _)] ⟨rfl, trivial⟩ (.region ?_))
            refine .p rfl rfl (.mv rfl) ?_
            refine .p rfl rfl (.as rfl) ?_
            refine .p rfl rfl (.as rfl) ?_
            refine .nil (.code ?_)
            refine .ret _ rfl ?_
            rw [wF_c (by omega) (by omega) (by omega) rfl c24]
            exact ⟨rfl, X22⟩
          · have hsq : ¬ (seq < 1 ∨ 2147483647 < seq) := by omega
            have h64 : ¬ 64 < l.length := by omega
            have hne : ¬ l.length = 0 := by omega
            have hc0 : chgC [] l = 0 := Decidable.not_not.1 c24
            refine .skip (.code (.seq (.keep [(0, _), (1, _)] ⟨rfl, rfl, trivial⟩ (.region ?_))))
            refine .p rfl rfl (.mv rfl) ?_
            refine .p rfl rfl (.cast (.convU rfl rfl rfl (by omega)) (show _ = Value.int .u64 ((seq.toNat : Nat) : Int) by rw [Int.toNat_of_nonneg (by omega)])) ?_
            refine .call (first := []) (captured := []) rfl rfl rfl rfl (RefSmall_fn (n := seq.toNat) (by omega)) ?_
            rintro r28 w28 ⟨G28, X28⟩
            have z28 : w22.heap.size ≤ w28.heap.size := X28.size
            have G28 := Gr.low G28 z22
            refine .p rfl rfl (.as rfl) ?_
            refine .nil (.code (.seq (.keep [(7, _), (0, _)] ⟨rfl, rfl, trivial⟩ (.region ?_))))
            refine .p rfl rfl (.mv rfl) ?_
            refine .p rfl rfl (.mv rfl) ?_
            refine .p rfl rfl (.len rfl rfl) ?_
            refine .p rfl rfl (.convU rfl rfl rfl (by omega)) ?_
            refine .call (first := []) (captured := []) rfl rfl rfl rfl (RefSmall_fn (n := l.length) (by omega)) ?_
            rintro r33 w33 ⟨G33, X33⟩
            have z33 : w28.heap.size ≤ w33.heap.size := X33.size
            have hs1 := smallF_length seq.toNat
            have hs2 := smallF_length l.length
            refine .v rfl rfl (.appendLo (t := tByte) (eb := 1) rfl (OwnO.ext0 G28 X33) (fun k hk => by have hk : w33.heap.size ≤ k := hk; show w.heap.size ≤ k; omega) rfl (Gr.holds (Gr.rep G33)) rfl rfl rfl rfl rfl rfl rfl (by simp; omega) (by simp [Lim]; omega) (fun _ h _ => h.elim)) ?_
            rintro r34 w34 ⟨G34, Y34⟩
            have z34 : w33.heap.size ≤ w34.heap.size := Y34.size
            refine .p rfl rfl (.as rfl) ?_
            refine .nil (.code (.seq (.seq (.keep [(7, _), (0, _)] ⟨rfl, rfl, trivial⟩ (.region ?_)))))
            refine .p rfl rfl (.as rfl) ?_
            refine .nil (.code (.block ?_))
            refine .loop (S := Nat × Bs × Value × World) (fun s => [(0, .slice a l.length cap), (7, s.2.2.1), (8, i64 s.1)]) (fun s => s.2.2.2) (fun s => s.1 ≤ l.length ∧ s.2.1 = preC l seq ++ (l.take s.1).flatMap recB ∧ s.2.1.length ≤ 20 + 4400 * s.1 ∧ Gr s.2.2.2 s.2.2.1 s.2.1 w.heap.size ∧ Ext (fun _ => False) w s.2.2.2) (fun s => l.length - s.1) (0, smallF seq.toNat ++ smallF l.length, _, w34) ⟨rfl, rfl, rfl, trivial⟩ rfl ⟨Nat.zero_le _, (List.append_nil _).symm, (by show (smallF seq.toNat ++ smallF l.length).length ≤ 20 + 4400 * 0; simp; omega), G34, (X22.trans (X28.trans X33)).then Y34 (fun k h _ => h)⟩ ?_
            rintro ⟨i, acc, v7, wi⟩ J ⟨hi', hacc, hal, hG, hX⟩ again
            simp only at hi' hacc hal hG hX
            have zwi : w.heap.size ≤ wi.heap.size := hX.size
            change G _ [(0, .slice a l.length cap), (7, v7), (8, i64 i)] _ _ wi
            refine .seq (.seq (.region ?_))
            refine .p rfl rfl (.mv rfl) ?_
            refine .p rfl rfl (.mv rfl) ?_
            refine .p rfl rfl (.len rfl rfl) ?_
            refine .p rfl rfl (.lt rfl rfl) ?_
            refine .nil (.code (.keep [(38, _), (0, _), (7, _), (8, _)] ⟨rfl, rfl, rfl, rfl, trivial⟩ ?_))
            refine .condD rfl (fun c38 => ?_) (fun c38 => ?_)
            · have hi : i < l.length := by omega
              obtain ⟨b0, o0, c0, ue, e, _, hcs, hre⟩ := Sl.at h (List.getElem?_eq_getElem hi)
              cases e
              obtain ⟨rfl, h1, h2⟩ := tChange.val hre
              obtain ⟨k1, k2, k3⟩ := chg_all hc0 hi
              refine .skip (.code (.seq (.block (.seq (.keep [(0, _), (7, _), (8, _)] ⟨rfl, rfl, rfl, trivial⟩ (.region ?_))))))
              refine .p rfl rfl (.mv rfl) ?_
              refine .p rfl rfl (.mv rfl) ?_
              refine .p rfl rfl (.mv rfl) ?_
              refine .p rfl rfl (.indexAddr (s := 3) rfl rfl rfl rfl (by omega)) ?_
              refine .p rfl rfl (.fieldAddr rfl rfl rfl rfl) ?_
              refine .p rfl rfl (.load rfl rfl rfl (hcs.ext (S := fun _ => False) hX (fun x => x) 0 _ rfl)) ?_
              refine .call (first := []) (captured := []) rfl rfl rfl rfl (RefText_fn (l := l[i].key) (by simp only [Lim]; omega) (by simp only [Lim]; omega)) ?_
              rintro r47 w47 ⟨G47, X47⟩
              have z47 : wi.heap.size ≤ w47.heap.size := X47.size
              have ht1 := textF_len l[i].key
              have ht2 := textF_len l[i].value
              refine .v rfl rfl (.appendLo (t := tByte) (eb := 1) rfl (OwnO.ext0 hG X47) (fun k hk => by have hk : w47.heap.size ≤ k := hk; show w.heap.size ≤ k; omega) rfl (Gr.holds (Gr.rep G47)) rfl rfl rfl rfl rfl rfl rfl (by simp; omega) (by simp [Lim]; omega) (fun _ h _ => h.elim)) ?_
              rintro r48 w48 ⟨G48, Y48⟩
              have z48 : w47.heap.size ≤ w48.heap.size := Y48.size
              refine .p rfl rfl (.as rfl) ?_
              refine .nil (.code (.seq (.keep [(7, _), (0, _), (8, _)] ⟨rfl, rfl, rfl, trivial⟩ (.region ?_))))
              refine .p rfl rfl (.mv rfl) ?_
              refine .p rfl rfl (.mv rfl) ?_
              refine .p rfl rfl (.indexAddr (s := 3) rfl rfl rfl rfl (by omega)) ?_
              refine .p rfl rfl (.fieldAddr rfl rfl rfl rfl) ?_
              refine .p rfl rfl (.load rfl rfl rfl (hcs.ext (S := fun _ => False) ((hX.trans X47).then Y48 (fun k h _ => h)) (fun x => x) 2 _ rfl)) ?_
              refine .nil (.code (.keep [(53, _), (7, _), (0, _), (8, _)] ⟨rfl, rfl, rfl, rfl, trivial⟩ ?_))
              refine .cond rfl (fun c53 => ?_) (fun c53 => ?_)
              · refine .keep [(7, _), (0, _), (8, _)] ⟨rfl, rfl, rfl, trivial⟩ (.region ?_)
                refine .p rfl rfl (.mv rfl) ?_
                refine .v rfl rfl (.lits rfl rfl (fun _ => by kernel_rfl)) ?_
                rintro _ w55 ⟨rfl, N55⟩
                have z55 := N55.size
                refine .v rfl rfl (.appendLo (t := tByte) (eb := 1) rfl (OwnO.ext0 G48 N55.ext) (fun k hk => by have hk : w55.heap.size ≤ k := hk; show w.heap.size ≤ k; omega) rfl (one_holds (c := 1) N55) rfl rfl rfl rfl rfl rfl rfl (by simp; omega) (by simp [Lim]; omega) (fun _ h _ => h.elim)) ?_
                rintro r56 w56 ⟨G56, Y56⟩
                have z56 : w55.heap.size ≤ w56.heap.size := Y56.size
                refine .p rfl rfl (.as rfl) ?_
                refine .nil (.blk (.code (.keep [(7, _), (0, _), (8, _)] ⟨rfl, rfl, rfl, trivial⟩ (.region ?_))))
                refine .p rfl rfl (.mv rfl) ?_
                refine .p rfl rfl (.add rfl rfl (by omega)) ?_
                refine .p rfl rfl (.as rfl) ?_
                refine .nil ?_
                exact (again (i + 1, acc ++ recB l[i], _, w56) ⟨by show i + 1 ≤ l.length; omega, by show acc ++ recB l[i] = _; rw [recs_step hi, hacc, List.append_assoc], by have := recB_len k2 k3; show (acc ++ recB l[i]).length ≤ 20 + 4400 * (i + 1); rw [List.length_append]; omega, by rw [recB_T c53, ← List.append_assoc]; exact G56, (((hX.trans X47).then Y48 (fun k h _ => h)).trans N55.ext).then Y56 (fun k h _ => h)⟩ (by show l.length - (i + 1) < l.length - i; omega)).of ⟨rfl, rfl, rfl, trivial⟩
              · refine .seq (.keep [(7, _), (0, _), (8, _)] ⟨rfl, rfl, rfl, trivial⟩ (.region ?_))
                refine .p rfl rfl (.mv rfl) ?_
                refine .v rfl rfl (.lits rfl rfl (fun _ => by kernel_rfl)) ?_
                rintro _ w58 ⟨rfl, N58⟩
                have z58 := N58.size
                refine .v rfl rfl (.appendLo (t := tByte) (eb := 1) rfl (OwnO.ext0 G48 N58.ext) (fun k hk => by have hk : w58.heap.size ≤ k := hk; show w.heap.size ≤ k; omega) rfl (one_holds (c := 0) N58) rfl rfl rfl rfl rfl rfl rfl (by simp; omega) (by simp [Lim]; omega) (fun _ h _ => h.elim)) ?_
                rintro r59 w59 ⟨G59, Y59⟩
                have z59 : w58.heap.size ≤ w59.heap.size := Y59.size
                refine .p rfl rfl (.as rfl) ?_
                refine .nil (.code (.keep [(7, _), (0, _), (8, _)] ⟨rfl, rfl, rfl, trivial⟩ (.region ?_)))
                refine .p rfl rfl (.mv rfl) ?_
                refine .p rfl rfl (.mv rfl) ?_
                refine .p rfl rfl (.mv rfl) ?_
                refine .p rfl rfl (.indexAddr (s := 3) rfl rfl rfl rfl (by omega)) ?_
                refine .p rfl rfl (.fieldAddr rfl rfl rfl rfl) ?_
                refine .p rfl rfl (.load rfl rfl rfl (hcs.ext (S := fun _ => False) ((((hX.trans X47).then Y48 (fun k h _ => h)).trans N58.ext).then Y59 (fun k h _ => h)) (fun x => x) 1 _ rfl)) ?_
                refine .call (first := []) (captured := []) rfl rfl rfl rfl (RefText_fn (l := l[i].value) (by simp only [Lim]; omega) (by simp only [Lim]; omega)) ?_
                rintro r66 w66 ⟨G66, X66⟩
                have z66 : w59.heap.size ≤ w66.heap.size := X66.size
                refine .v rfl rfl (.appendLo (t := tByte) (eb := 1) rfl (OwnO.ext0 G59 X66) (fun k hk => by have hk : w66.heap.size ≤ k := hk; show w.heap.size ≤ k; omega) rfl (Gr.holds (Gr.rep G66)) rfl rfl rfl rfl rfl rfl rfl (by simp; omega) (by simp [Lim]; omega) (fun _ h _ => h.elim)) ?_
                rintro r67 w67 ⟨G67, Y67⟩
                have z67 : w66.heap.size ≤ w67.heap.size := Y67.size
                refine .p rfl rfl (.as rfl) ?_
                refine .nil (.blk (.code (.keep [(7, _), (0, _), (8, _)] ⟨rfl, rfl, rfl, trivial⟩ (.region ?_))))
                refine .p rfl rfl (.mv rfl) ?_
                refine .p rfl rfl (.add rfl rfl (by omega)) ?_
                refine .p rfl rfl (.as rfl) ?_
                refine .nil ?_
                exact (again (i + 1, acc ++ recB l[i], _, w67) ⟨by show i + 1 ≤ l.length; omega, by show acc ++ recB l[i] = _; rw [recs_step hi, hacc, List.append_assoc], by have := recB_len k2 k3; show (acc ++ recB l[i]).length ≤ 20 + 4400 * (i + 1); rw [List.length_append]; omega, by rw [recB_F c53, ← List.append_assoc, List.append_cons]; exact G67, (((((hX.trans X47).then Y48 (fun k h _ => h)).trans N58.ext).then Y59 (fun k h _ => h)).trans X66).then Y67 (fun k h _ => h)⟩ (by show l.length - (i + 1) < l.length - i; omega)).of ⟨rfl, rfl, rfl, trivial⟩
            · obtain rfl : i = l.length := by omega
              obtain ⟨a6, c6, rfl, hc6⟩ := OwnO.val hG
              rw [List.take_length] at hacc
              have hbody : bodyC l seq = acc := hacc.symm
              refine .exit rfl (.code (.seq (.seq (.keep [(7, _)] ⟨rfl, trivial⟩ (.region ?_)))))
              refine .p rfl rfl (.mv rfl) ?_
              refine .p rfl rfl (.len rfl rfl) ?_
              refine .p rfl rfl (.gt rfl rfl) ?_
              refine .nil (.code (.keep [(70, _), (7, _)] ⟨rfl, rfl, trivial⟩ ?_))
              refine .condD rfl (fun c70 => ?_) (fun c70 => ?_)
              · refine .seq (.keep [] trivial (.region ?_))
                refine .p rfl rfl (.as rfl) ?_
                refine .p rfl rfl (.as rfl) ?_
                refine .nil (.code ?_)
                refine .ret _ rfl ?_
                rw [wF_3 hsq h64 hne hc0 (by rw [hbody]; omega)]
                exact ⟨rfl, hX⟩
              · refine .skip (.code (.seq (.keep [(7, _)] ⟨rfl, trivial⟩ (.region ?_))))
                refine .p rfl rfl (.mv rfl) ?_
                refine .p rfl rfl (.bytesStr rfl (Gr.rep hG) rfl rfl rfl) ?_
                refine .p rfl rfl (.as rfl) ?_
                refine .p rfl rfl (.as rfl) ?_
                refine .nil (.code ?_)
                refine .ret _ rfl ?_
                rw [wF_0 hsq h64 hne hc0 (by rw [hbody]; omega), hbody]
                exact ⟨rfl, hX⟩
end Go.Proofs.Ytlkidbafmgmhdaa
