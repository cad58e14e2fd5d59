
/-
  Layer 7, the document's own answer: its walks.
-/
import Derived.Test.YthkgadhamecnlaaRef01
import Derived.Test.YthkgadhamecnlaaApp
import Derived.Test.YthkgadhamecnlaaSieveLaw
import Derived.Test.YthkgadhamecnlaaSieve
set_option linter.unusedVariables false
set_option maxRecDepth 20000
namespace Go.Proofs.Ythkgadhamecnlaa
open Go sieve
theorem or_one (x : UInt32) : (x ||| 1).toNat = if x.toNat % 2 = 0 then x.toNat + 1 else x.toNat := by
  rw [UInt32.toNat_or]
  show x.toNat ||| 1 = _
  have h := Nat.two_pow_add_eq_or_of_lt (b := 1) (i := 1) (by omega) (x.toNat / 2)
  have h2 : x.toNat ||| 1 = 2 ^ 1 * (x.toNat / 2) ||| 1 := by
    apply Nat.eq_of_testBit_eq
    intro i
    rw [Nat.testBit_or, Nat.testBit_or, Nat.testBit_two_pow_mul]
    cases i with
    | zero => simp
    | succ i => simp [Nat.testBit_succ]
  rw [h2, ← h]
  split <;> omega
theorem markN_eq (h g : UInt32) (m i : Nat) (hm : 1 ≤ m ∧ m ≤ 65536) : markN h g m i = (((h.toNat : Int) + (i : Int) * (g.toNat : Int)) % 4294967296) % (m : Int) := by
  unfold markN
  have h3 : (UInt32.ofNat m).toNat = m := by simp; omega
  rw [UInt32.toNat_mod, h3, UInt32.toNat_add, UInt32.toNat_mul, UInt32.toNat_ofNat']
  simp only [Nat.add_mod_mod, Nat.mod_mul_mod, Nat.reducePow]
  have : ((h.toNat : Int) + (i : Int) * (g.toNat : Int)) = ((h.toNat + i * g.toNat : Nat) : Int) := by simp
  rw [this, Int.natCast_emod, Int.natCast_emod]
  rfl
theorem refmarks_fn {w : World} {key : Bs} {m : Nat} (hk : key.length ≤ 256) (h1 : 1 ≤ m) (h2 : m ≤ 65536) : Fn Try.prog 70 [str key, i64 m] w (fun r w2 => tInts.rep (fun k => w.heap.size ≤ k) w2 r (marksL key m) ∧ Ext (fun _ => False) w w2) := by
  refine Fn.enter (fun w => Try.call70 _ w) Try.func70 rfl ?_
  refine .seq (.region ?_)
  refine .p rfl rfl (.as rfl) ?_
  refine .nil (.code (.seq (.keep [(0, _), (1, _)] ⟨rfl, rfl, trivial⟩ (.region ?_))))
  refine .p rfl rfl (.mv rfl) ?_
  refine .v rfl rfl (.strBytes rfl rfl rfl rfl) ?_
  rintro _ w11 ⟨cap11, cs11, rfl, hc11, hn11, hs11, N11⟩
  have R11 := strBytes_rep (by simp only [Lim]; omega) hc11 hs11 N11
  refine .p rfl rfl (.as rfl) ?_
  refine .nil (.code (.seq (.keep [(5, _), (1, _)] ⟨rfl, rfl, trivial⟩ (.region ?_))))
  refine .p rfl rfl (.mv rfl) ?_
  refine .call (first := []) (captured := []) rfl rfl rfl rfl (RefSum_fn (allOf R11)) ?_
  rintro _ w13 ⟨rfl, S13⟩
  refine .p rfl rfl (.convU rfl rfl rfl (by have := (crc key).toNat_lt; omega)) ?_
  refine .p rfl rfl (.as rfl) ?_
  refine .nil (.code (.seq (.keep [(6, _), (5, _), (1, _)] ⟨rfl, rfl, rfl, trivial⟩ (.region ?_))))
  refine .p rfl rfl (.mv rfl) ?_
  refine .v rfl rfl (.lits rfl rfl (fun _ => by kernel_rfl)) ?_
  rintro _ w16 ⟨rfl, N16⟩
  have O16 : Own tByte (fun _ => False) 5 w16 _ key w.heap.size := (Own.ofText N11 (by simp only [Lim]; omega) hc11 hn11 hs11).ext0 ((Ext.same S13).trans N16.ext)
  refine .v rfl rfl (.append (t := tByte) (eb := 1) rfl O16 rfl (.inr (New.holds (us := [u8 1]) (xs := [1]) N16 (each_u8 [1]) rfl)) rfl rfl rfl rfl rfl rfl rfl (by simp; omega) (by simp [Lim]; omega) (fun _ h _ => h.elim)) ?_
  rintro v17 w17 ⟨b17, O17, X17, hb17⟩
  have R17 : tBytes.rep All w17 v17 (key ++ [1]) := O17.rep trivial (fun _ _ _ => trivial)
  refine .call (first := []) (captured := []) rfl rfl rfl rfl (RefSum_fn R17) ?_
  rintro _ w18 ⟨rfl, S18⟩
  have hg := or_one (crc (key ++ [1]))
  have hgl := (crc (key ++ [1])).toNat_lt
  have hhl := (crc key).toNat_lt
  have hgo : (gOf key).toNat = (crc (key ++ [1]) ||| 1).toNat := rfl
  have Z17 : Ext (fun _ => False) w w17 := ((N11.ext.trans (.same S13)).trans N16.ext).then X17 (by rintro k rfl _; omega)
  have Z18 := Z17.trans (.same S18)
  have hz := Z18.size
  refine .p rfl rfl (.convU rfl rfl rfl (by omega)) ?_
  refine .p rfl rfl (.as rfl) ?_
  refine .nil (.code (.seq (.seq (.keep [(7, _), (6, _), (1, _)] ⟨rfl, rfl, rfl, trivial⟩ (.region ?_)))))
  refine .p rfl rfl (.mv rfl) ?_
  refine .p rfl rfl (.rem rfl rfl (by omega)) ?_
  refine .p rfl rfl (.eq rfl rfl) ?_
  refine .nil (.code (.keep [(22, _), (7, _), (6, _), (1, _)] ⟨rfl, rfl, rfl, rfl, trivial⟩ ?_))
  refine .meet (S := Unit) (fun s => [(6, .int .u64 (crc key).toNat), (7, .int .u64 (gOf key).toNat), (1, i64 m)]) (fun s => w18) (fun s => True) ?_ ?_
  · rintro _ _
    refine .code (.seq (.region ?_))
    refine .p rfl rfl (.as rfl) ?_
    refine .nil (.code (.seq (.seq (.region ?_))))
    refine .p rfl rfl (.as rfl) ?_
    refine .nil (.code (.block ?_))
    refine .loop (S := Nat × Value × Nat × World) (fun s => [(9, .int .u64 s.1), (8, s.2.1), (6, .int .u64 (crc key).toNat), (7, .int .u64 (gOf key).toNat), (1, i64 m)]) (fun s => s.2.2.2) (fun s => s.1 ≤ 4 ∧ Own tInt (fun _ => False) 3 s.2.2.2 s.2.1 ((List.range s.1).map (markN (hOf key) (gOf key) m)) s.2.2.1 ∧ Ext (fun _ => False) w18 s.2.2.2 ∧ w18.heap.size ≤ s.2.2.1) (fun s => 4 - s.1) (0, .slice none 0 0, w18.heap.size, w18) ⟨rfl, rfl, rfl, rfl, rfl, trivial⟩ rfl ⟨Nat.zero_le _, Own.nil, .refl _, Nat.le_refl _⟩ ?_
    rintro ⟨i, v, b, wi⟩ J ⟨hi, hO, hX, hb⟩ again
    simp only at hi hO hX hb
    refine .seq (.seq (.region ?_))
    refine .p rfl rfl (.mv rfl) ?_
    refine .p rfl rfl (.lt rfl rfl) ?_
    refine .nil (.code (.keep [(26, _), (9, _), (8, _), (6, _), (7, _), (1, _)] ⟨rfl, rfl, rfl, rfl, rfl, rfl, trivial⟩ ?_))
    refine .condD rfl (fun c26 => ?_) (fun c26 => ?_)
    · have hg2 := (gOf key).toNat_lt
      have hh2 := (crc key).toNat_lt
      have hi4 : i < 4 := by omega
      have hmul : 0 ≤ (i : Int) * ((gOf key).toNat : Int) ∧ (i : Int) * ((gOf key).toNat : Int) ≤ 18446744073709551615 := by
        have e1 : i * (gOf key).toNat ≤ 4 * (gOf key).toNat := Nat.mul_le_mul_right _ (by omega)
        have e2 : (i : Int) * ((gOf key).toNat : Int) = ((i * (gOf key).toNat : Nat) : Int) := by simp
        rw [e2]
        omega
      have hsum : 0 ≤ ((crc key).toNat : Int) + (i : Int) * ((gOf key).toNat : Int) ∧ ((crc key).toNat : Int) + (i : Int) * ((gOf key).toNat : Int) ≤ 18446744073709551615 := by
        have e1 : i * (gOf key).toNat ≤ 4 * (gOf key).toNat := Nat.mul_le_mul_right _ (by omega)
        have e2 : (i : Int) * ((gOf key).toNat : Int) = ((i * (gOf key).toNat : Nat) : Int) := by simp
        rw [e2]
        omega
      have hval : -9223372036854775808 ≤ (((crc key).toNat : Int) + (i : Int) * ((gOf key).toNat : Int)) % 4294967296 % (m : Int) ∧ (((crc key).toNat : Int) + (i : Int) * ((gOf key).toNat : Int)) % 4294967296 % (m : Int) ≤ 9223372036854775807 := by
        have a1 := Int.emod_nonneg ((((crc key).toNat : Int) + (i : Int) * ((gOf key).toNat : Int)) % 4294967296) (b := (m : Int)) (by omega)
        have a2 := Int.emod_lt_of_pos ((((crc key).toNat : Int) + (i : Int) * ((gOf key).toNat : Int)) % 4294967296) (b := (m : Int)) (by omega)
        omega
      refine .skip (.code (.seq (.block (.keep [(9, _), (8, _), (6, _), (7, _), (1, _)] ⟨rfl, rfl, rfl, rfl, rfl, trivial⟩ (.region ?_)))))
      refine .p rfl rfl (.mv rfl) ?_
      refine .p rfl rfl (.mv rfl) ?_
      refine .p rfl rfl (.mv rfl) ?_
      refine .p rfl rfl (.mv rfl) ?_
      refine .p rfl rfl (.mulU rfl rfl hmul) ?_
      refine .p rfl rfl (.addU rfl rfl hsum) ?_
      refine .p rfl rfl (.rem rfl rfl ⟨hsum.1, by decide⟩) ?_
      refine .p rfl rfl (.mv rfl) ?_
      refine .p rfl rfl (.convU rfl rfl rfl (by omega)) ?_
      refine .p rfl rfl (.rem rfl rfl ⟨Int.emod_nonneg _ (by decide), by omega⟩) ?_
      refine .p rfl rfl (.convI rfl rfl rfl hval) ?_
      refine .v rfl rfl (.lits rfl rfl (fun _ => by kernel_rfl)) ?_
      rintro _ w40 ⟨rfl, N40⟩
      refine .v rfl rfl (.append (t := tInt) (eb := 8) rfl (hO.ext0 N40.ext) rfl (.inr (New.holds (us := [i64 ((((crc key).toNat : Int) + (i : Int) * ((gOf key).toNat : Int)) % 4294967296 % (m : Int))]) (xs := [(((crc key).toNat : Int) + (i : Int) * ((gOf key).toNat : Int)) % 4294967296 % (m : Int)]) N40 (each_int (l := [_]) (by intro x hx; cases List.mem_singleton.1 hx; exact hval)) rfl)) rfl rfl rfl rfl rfl rfl rfl (by simp; omega) (by simp [Lim]; omega) (fun _ h _ => h.elim)) ?_
      rintro v41 w41 ⟨b41, hO41, X41, hb41⟩
      refine .p rfl rfl (.as rfl) ?_
      refine .nil (.blk (.code (.keep [(8, _), (9, _), (6, _), (7, _), (1, _)] ⟨rfl, rfl, rfl, rfl, rfl, trivial⟩ (.region ?_))))
      refine .p rfl rfl (.mv rfl) ?_
      refine .p rfl rfl (.addU rfl rfl (by omega)) ?_
      refine .p rfl rfl (.as rfl) ?_
      refine .nil ?_
      have hO' := hO41.mono (Q' := fun _ => False) (fun _ h _ => h.1)
      have hX41 := (hX.trans N40.ext).then X41 (by rintro k rfl _; omega)
      refine (again (i + 1, v41, b41, w41) ⟨by show i + 1 ≤ 4; omega, ?_, hX41, ?_⟩ (by show 4 - (i + 1) < 4 - i; omega)).of ⟨rfl, rfl, rfl, rfl, rfl, trivial⟩
      · show Own tInt _ _ w41 v41 _ b41
        rw [List.range_succ, List.map_append, List.map_cons, List.map_nil, markN_eq _ _ _ _ ⟨h1, h2⟩]
        exact hO'
      · show w18.heap.size ≤ b41
        have := (hX.trans N40.ext).size
        omega
    · refine .exit rfl (.code (.seq (.keep [(8, _)] ⟨rfl, trivial⟩ (.region ?_))))
      refine .p rfl rfl (.mv rfl) ?_
      refine .p rfl rfl (.as rfl) ?_
      refine .nil (.code ?_)
      refine .ret _ rfl ?_
      obtain rfl : i = 4 := by omega
      exact ⟨hO.rep (by show w.heap.size ≤ b; omega) (fun _ h _ => h.elim), Z18.trans hX⟩
  · intro meet
    refine .condD rfl (fun c22 => ?_) (fun c22 => ?_)
    · refine .keep [(7, _), (6, _), (1, _)] ⟨rfl, rfl, rfl, trivial⟩ (.region ?_)
      refine .p rfl rfl (.mv rfl) ?_
      refine .p rfl rfl (.addU rfl rfl (by omega)) ?_
      refine .p rfl rfl (.as rfl) ?_
      refine .nil ?_
      have e : (gOf key).toNat = (crc (key ++ [1])).toNat + 1 := by rw [hgo, hg, if_pos (by omega)]
      exact (meet () trivial).of ⟨rfl, by rw [e]; rfl, rfl, trivial⟩
    · refine .skip ?_
      have e : (gOf key).toNat = (crc (key ++ [1])).toNat := by rw [hgo, hg, if_neg (by omega)]
      exact (meet () trivial).of ⟨rfl, by rw [e]; rfl, rfl, trivial⟩
theorem has_step (b : UInt8) (i : Nat) (hi : i < 8) : ((((b / ((1 : UInt8) <<< UInt8.ofNat i)) % 2).toNat : Int) = 0) ↔ b.toNat.testBit i = false := by
  rw [UInt8.toNat_mod, UInt8.toNat_div, one_shl i hi, Nat.testBit_eq_decide_div_mod_eq, decide_eq_false_iff_not]
  show ((b.toNat / 2 ^ i % 2 : Nat) : Int) = 0 ↔ _
  omega
theorem one_shl_pos (i : Nat) (hi : i < 8) : 1 ≤ ((1 : UInt8) <<< UInt8.ofNat i).toNat := by
  rw [one_shl i hi]
  exact Nat.pow_pos (by decide)
theorem all_snoc {α : Type} {p : α → Bool} {l : List α} {k : Nat} (hk : k < l.length) (h : (l.take k).all p = true) (hp : p l[k] = true) : (l.take (k + 1)).all p = true := by
  rw [List.take_succ_eq_append_getElem hk, List.all_append, h]
  simp [hp]
theorem RefSieveMake_fn {w : World} {v : Value} {keys : List Bs} {many : Int} (h : tStrs.rep All w v keys) : Fn Try.prog 43 [v, i64 many] w (fun r w2 => ∃ s, r = .tuple #[s, i64 (makeF keys many).2] ∧ tBytes.rep (fun k => w.heap.size ≤ k) w2 s (makeF keys many).1 ∧ Ext (fun _ => False) w w2) := by
  obtain ⟨a, cap, rfl, hcap⟩ := Sl.val h
  have hlim := Sl.lim h
  simp only [Lim] at hlim
  refine Fn.enter (fun w => Try.call43 _ w) Try.func43 rfl ?_
  refine .seq (.region ?_)
  refine .p rfl rfl (.as rfl) ?_
  refine .p rfl rfl (.as rfl) ?_
  refine .nil (.code (.seq (.seq (.keep [(0, _), (1, _)] ⟨rfl, rfl, trivial⟩ (.region ?_)))))
  refine .p rfl rfl (.mv rfl) ?_
  refine .p rfl rfl (.len rfl rfl) ?_
  refine .p rfl rfl (.gt rfl rfl) ?_
  refine .nil (.code (.keep [(13, _), (0, _), (1, _)] ⟨rfl, rfl, rfl, trivial⟩ ?_))
  refine .condD rfl (fun c13 => ?_) (fun c13 => ?_)
  · refine .seq (.keep [] trivial (.region ?_))
    refine .p rfl rfl (.as rfl) ?_
    refine .p rfl rfl (.as rfl) ?_
    refine .nil (.code ?_)
    refine .ret _ rfl ?_
    have e : makeF keys many = ([], 4) := by unfold makeF; rw [if_pos (by omega)]
    rw [e]
    exact ⟨_, rfl, Sl.nil, .refl _⟩
  · refine .skip (.code (.seq (.seq (.keep [(0, _), (1, _)] ⟨rfl, rfl, trivial⟩ (.region ?_)))))
    refine .p rfl rfl (.as rfl) ?_
    refine .nil (.code (.block ?_))
    refine .loop (S := Nat) (fun s => [(6, i64 s), (0, .slice a keys.length cap), (1, i64 many)]) (fun s => w) (fun s => s ≤ keys.length ∧ ∀ j (hj : j < keys.length), j < s → keys[j].length ≤ 256) (fun s => keys.length - s) 0 ⟨rfl, rfl, rfl, trivial⟩ rfl ⟨Nat.zero_le _, fun j hj h => absurd h (Nat.not_lt_zero _)⟩ ?_
    rintro i J ⟨hi', hall⟩ again
    refine .seq (.seq (.region ?_))
    refine .p rfl rfl (.mv rfl) ?_
    refine .p rfl rfl (.mv rfl) ?_
    refine .p rfl rfl (.len rfl rfl) ?_
    refine .p rfl rfl (.lt rfl rfl) ?_
    refine .nil (.code (.keep [(17, _), (6, _), (0, _), (1, _)] ⟨rfl, rfl, rfl, rfl, trivial⟩ ?_))
    refine .condD rfl (fun c17 => ?_) (fun c17 => ?_)
    · have hi : i < keys.length := by omega
      obtain ⟨b, o, rfl, _, hc, hkl⟩ := Sl.strAt h hi
      refine .skip (.code (.seq (.block (.seq (.keep [(6, _), (0, _), (1, _)] ⟨rfl, rfl, rfl, trivial⟩ (.region ?_))))))
      refine .p rfl rfl (.mv rfl) ?_
      refine .p rfl rfl (.mv rfl) ?_
      refine .p rfl rfl (.indexAddr1 rfl rfl rfl rfl (by omega)) ?_
      refine .p rfl rfl (.load rfl rfl rfl hc) ?_
      refine .p rfl rfl (.lenS rfl rfl) ?_
      refine .p rfl rfl (.gt rfl rfl) ?_
      refine .nil (.code (.keep [(25, _), (6, _), (0, _), (1, _)] ⟨rfl, rfl, rfl, rfl, trivial⟩ ?_))
      refine .condD rfl (fun c25 => ?_) (fun c25 => ?_)
      · refine .seq (.keep [] trivial (.region ?_))
        refine .p rfl rfl (.as rfl) ?_
        refine .p rfl rfl (.as rfl) ?_
        refine .nil (.code ?_)
        refine .ret _ rfl ?_
        have e : makeF keys many = ([], 3) := by unfold makeF; rw [if_neg (by omega), if_pos (List.any_eq_true.2 ⟨keys[i], List.getElem_mem hi, by simp; omega⟩)]
        rw [e]
        exact ⟨_, rfl, Sl.nil, .refl _⟩
      · refine .skip (.blk (.code (.keep [(6, _), (0, _), (1, _)] ⟨rfl, rfl, rfl, trivial⟩ (.region ?_))))
        refine .p rfl rfl (.mv rfl) ?_
        refine .p rfl rfl (.add rfl rfl (by omega)) ?_
        refine .p rfl rfl (.as rfl) ?_
        refine .nil ?_
        exact (again (i + 1) ⟨by show i + 1 ≤ _; omega, snoc_all (fun j hj => keys[j].length ≤ 256) hall (fun _ => by omega)⟩ (by show _ - (i + 1) < _ - i; omega)).of ⟨rfl, rfl, rfl, trivial⟩
    · refine .exit rfl (.code (.seq (.seq (.keep [(0, _), (1, _)] ⟨rfl, rfl, trivial⟩ (.region ?_)))))
      refine .p rfl rfl (.mv rfl) ?_
      refine .p rfl rfl (.lt rfl rfl) ?_
      refine .p rfl rfl (.mv rfl) ?_
      refine .caseD 28 rfl (fun c28 => ?_) (fun c28 => ?_)
      · refine .skip rfl rfl ?_
        refine .skip rfl rfl ?_
        refine .p rfl rfl (.pickT rfl rfl) ?_
        refine .p rfl rfl (.mv rfl) ?_
        refine .skip rfl rfl ?_
        refine .skip rfl rfl ?_
        refine .skip rfl rfl ?_
        refine .p rfl rfl (.pickT rfl rfl) ?_
        refine .nil (.code (.keep [(36, _), (0, _), (1, _)] ⟨rfl, rfl, rfl, trivial⟩ (.condT rfl (.seq (.keep [] trivial (.region ?_))))))
        refine .p rfl rfl (.as rfl) ?_
        refine .p rfl rfl (.as rfl) ?_
        refine .nil (.code ?_)
        refine .ret _ rfl ?_
        have hany : ¬ keys.any (fun k => decide (256 < k.length)) = true := by
          simp only [Bool.not_eq_true, List.any_eq_false, decide_eq_true_eq]
          intro k hk
          obtain ⟨j, hj, rfl⟩ := List.mem_iff_getElem.1 hk
          have := hall j hj (by omega)
          omega
        have e : makeF keys many = ([], 2) := by unfold makeF; rw [if_neg (by omega), if_neg hany, if_pos (by omega)]
        rw [e]
        exact ⟨_, rfl, Sl.nil, .refl _⟩
      · refine .p rfl rfl (.mv rfl) ?_
        refine .p rfl rfl (.gt rfl rfl) ?_
        refine .p rfl rfl (.pickF rfl rfl) ?_
        refine .p rfl rfl (.mv rfl) ?_
        refine .caseD 32 rfl (fun c32 => ?_) (fun c32 => ?_)
        · refine .skip rfl rfl ?_
          refine .skip rfl rfl ?_
          refine .skip rfl rfl ?_
          refine .p rfl rfl (.pickT rfl rfl) ?_
          refine .nil (.code (.keep [(36, _), (0, _), (1, _)] ⟨rfl, rfl, rfl, trivial⟩ (.condT rfl (.seq (.keep [] trivial (.region ?_))))))
          refine .p rfl rfl (.as rfl) ?_
          refine .p rfl rfl (.as rfl) ?_
          refine .nil (.code ?_)
          refine .ret _ rfl ?_
          have hany : ¬ keys.any (fun k => decide (256 < k.length)) = true := by
            simp only [Bool.not_eq_true, List.any_eq_false, decide_eq_true_eq]
            intro k hk
            obtain ⟨j, hj, rfl⟩ := List.mem_iff_getElem.1 hk
            have := hall j hj (by omega)
            omega
          have e : makeF keys many = ([], 2) := by unfold makeF; rw [if_neg (by omega), if_neg hany, if_pos (by omega)]
          rw [e]
          exact ⟨_, rfl, Sl.nil, .refl _⟩
        · refine .p rfl rfl (.mv rfl) ?_
          refine .p rfl rfl (.rem rfl rfl (by omega)) ?_
          refine .p rfl rfl (.ne rfl rfl) ?_
          refine .p rfl rfl (.pickF rfl rfl) ?_
          refine .nil (.code (.keep [(36, _), (0, _), (1, _)] ⟨rfl, rfl, rfl, trivial⟩ ?_))
          refine .condD rfl (fun c36 => ?_) (fun c36 => ?_)
          · refine .seq (.keep [] trivial (.region ?_))
            refine .p rfl rfl (.as rfl) ?_
            refine .p rfl rfl (.as rfl) ?_
            refine .nil (.code ?_)
            refine .ret _ rfl ?_
            have hany : ¬ keys.any (fun k => decide (256 < k.length)) = true := by
              simp only [Bool.not_eq_true, List.any_eq_false, decide_eq_true_eq]
              intro k hk
              obtain ⟨j, hj, rfl⟩ := List.mem_iff_getElem.1 hk
              have := hall j hj (by omega)
              omega
            have e : makeF keys many = ([], 2) := by unfold makeF; rw [if_neg (by omega), if_neg hany, if_pos (by omega)]
            rw [e]
            exact ⟨_, rfl, Sl.nil, .refl _⟩
          · obtain ⟨m, rfl⟩ := Int.eq_ofNat_of_zero_le (a := many) (by omega)
            have hm8 : m % 8 = 0 := by omega
            have hkey : ∀ j (hj : j < keys.length), keys[j].length ≤ 256 := fun j hj => hall j hj (by omega)
            refine .skip (.code (.seq (.keep [(0, _), (1, _)] ⟨rfl, rfl, trivial⟩ (.region ?_))))
            refine .p rfl rfl (.mv rfl) ?_
            refine .p rfl rfl (.quo rfl rfl (by omega)) ?_
            refine .v rfl rfl (.make (eb := 1) rfl rfl rfl rfl rfl rfl rfl rfl (by omega)) ?_
            rintro _ w39 ⟨rfl, N39⟩
            have X39 := N39.ext
            refine .p rfl rfl (.as rfl) ?_
            refine .nil (.code (.seq (.seq (.keep [(7, _), (0, _), (1, _)] ⟨rfl, rfl, rfl, trivial⟩ (.region ?_)))))
            refine .p rfl rfl (.as rfl) ?_
            refine .nil (.code (.block ?_))
            refine .loop (S := Nat × World) (fun s => [(8, i64 s.1), (0, .slice a keys.length cap), (7, .slice (some ⟨w.heap.size, 0, none⟩) (m / 8) (m / 8)), (1, i64 m)]) (fun s => s.2) (fun s => s.1 ≤ keys.length ∧ Blk s.2 w.heap.size 5 ((makeTo keys m s.1).map u8) ∧ Ext (· = w.heap.size) w39 s.2) (fun s => keys.length - s.1) (0, w39) ⟨rfl, rfl, rfl, rfl, trivial⟩ rfl ⟨Nat.zero_le _, by show Blk w39 _ _ ((makeTo keys m 0).map u8); rw [makeTo_zero]; exact N39.blk, .refl _⟩ ?_
            rintro ⟨i, w40⟩ J ⟨hi', hB, hX⟩ again
            simp only at hi' hB hX
            refine .seq (.seq (.region ?_))
            refine .p rfl rfl (.mv rfl) ?_
            refine .p rfl rfl (.mv rfl) ?_
            refine .p rfl rfl (.len rfl rfl) ?_
            refine .p rfl rfl (.lt rfl rfl) ?_
            refine .nil (.code (.keep [(43, _), (8, _), (0, _), (7, _), (1, _)] ⟨rfl, rfl, rfl, rfl, rfl, trivial⟩ ?_))
            refine .condD rfl (fun c43 => ?_) (fun c43 => ?_)
            · have hi : i < keys.length := by omega
              obtain ⟨b, o, rfl, _, hc, hkl⟩ := Sl.strAt h hi
              have hbw : b < w.heap.size := World.block_lt_of_cell? w _ hc
              have hc' : w40.cell? ⟨b, o + i, none⟩ = some (str keys[i]) := hX.cell (X39.cell hc (fun x => x)) (by show ¬ b = w.heap.size; omega)
              refine .skip (.code (.seq (.block (.seq (.keep [(8, _), (0, _), (7, _), (1, _)] ⟨rfl, rfl, rfl, rfl, trivial⟩ (.region ?_))))))
              refine .p rfl rfl (.mv rfl) ?_
              refine .p rfl rfl (.mv rfl) ?_
              refine .p rfl rfl (.indexAddr1 rfl rfl rfl rfl (by omega)) ?_
              refine .p rfl rfl (.load rfl rfl rfl hc') ?_
              refine .p rfl rfl (.mv rfl) ?_
              refine .call (first := []) (captured := []) rfl rfl rfl rfl (refmarks_fn (hkey i hi) (by omega) (by omega)) ?_
              rintro r51 w51 ⟨hl, X51⟩
              obtain ⟨al, lcap, rfl, _⟩ := Sl.val hl
              have hll : (marksL keys[i] m).length = 4 := marksL_length _ _
              simp only [hll] at hl ⊢
              refine .p rfl rfl (.as rfl) ?_
              refine .nil (.code (.seq (.keep [(9, _), (8, _), (0, _), (7, _), (1, _)] ⟨rfl, rfl, rfl, rfl, rfl, trivial⟩ (.region ?_))))
              refine .p rfl rfl (.as rfl) ?_
              refine .nil (.code (.block ?_))
              refine .loop (S := Nat × World) (fun s => [(10, i64 s.1), (9, .slice al 4 lcap), (8, i64 i), (0, .slice (some ⟨b, o, none⟩) keys.length cap), (7, .slice (some ⟨w.heap.size, 0, none⟩) (m / 8) (m / 8)), (1, i64 m)]) (fun s => s.2) (fun s => s.1 ≤ 4 ∧ Blk s.2 w.heap.size 5 ((setAll (makeTo keys m i) ((marksL keys[i] m).take s.1)).map u8) ∧ Ext (· = w.heap.size) w51 s.2) (fun s => 4 - s.1) (0, w51) ⟨rfl, rfl, rfl, rfl, rfl, rfl, trivial⟩ rfl ⟨Nat.zero_le _, by exact hB.ext X51 (fun x => x), .refl _⟩ ?_
              rintro ⟨k, w55⟩ J ⟨hk', hB', hX'⟩ again'
              simp only at hk' hB' hX'
              refine .seq (.seq (.region ?_))
              refine .p rfl rfl (.mv rfl) ?_
              refine .p rfl rfl (.mv rfl) ?_
              refine .p rfl rfl (.len rfl rfl) ?_
              refine .p rfl rfl (.lt rfl rfl) ?_
              refine .nil (.code (.keep [(55, _), (10, _), (9, _), (8, _), (0, _), (7, _), (1, _)] ⟨rfl, rfl, rfl, rfl, rfl, rfl, rfl, trivial⟩ ?_))
              refine .condD rfl (fun c55 => ?_) (fun c55 => ?_)
              · have hk : k < (marksL keys[i] m).length := by omega
                obtain ⟨lb, lo, rfl, hlb, hq, _⟩ := Sl.intAt hl hk
                have hbd := marksL_bd (key := keys[i]) (m := m) (by omega) (by omega) _ (List.getElem_mem hk)
                obtain ⟨q, hq0⟩ := Int.eq_ofNat_of_zero_le hbd.1
                rw [hq0] at hq hbd
                have hz := hX.size
                have hz39 := N39.size
                have hlb : w40.heap.size ≤ lb := hlb
                have hq' : w55.cell? ⟨lb, lo + k, none⟩ = some (i64 ↑q) := hX'.cell hq (by show ¬ lb = w.heap.size; omega)
                have hlen : (setAll (makeTo keys m i) ((marksL keys[i] m).take k)).length = m / 8 := by rw [setAll_length, makeTo_length]
                have hq8 : q / 8 < (setAll (makeTo keys m i) ((marksL keys[i] m).take k)).length := by rw [hlen]; omega
                have hb71 : w55.cell? ⟨w.heap.size, q / 8, none⟩ = some (u8 (setAll (makeTo keys m i) ((marksL keys[i] m).take k))[q / 8]) := by
                  rw [hB'.cell]
                  simp [hq8]
                refine .skip (.code (.seq (.block (.keep [(10, _), (9, _), (8, _), (0, _), (7, _), (1, _)] ⟨rfl, rfl, rfl, rfl, rfl, rfl, trivial⟩ (.mix ((· = w.heap.size)) [13, 22] (by kernel_rfl) (by kernel_rfl) (by kernel_rfl) ?_)))))
                refine .p rfl rfl rfl (fun wx hx => .mv rfl) ?_
                refine .p rfl rfl rfl (fun wx hx => .mv rfl) ?_
                refine .p rfl rfl rfl (fun wx hx => .mv rfl) ?_
                refine .p rfl rfl rfl (fun wx hx => .indexAddr1 rfl rfl rfl rfl (by omega)) ?_
                refine .p rfl rfl rfl (fun wx hx => .load rfl rfl rfl (hx.cell hq' (by show ¬ lb = w.heap.size; omega))) ?_
                refine .p rfl rfl rfl (fun wx hx => .quo rfl rfl (by omega)) ?_
                refine .p rfl rfl rfl (fun wx hx => .mv rfl) ?_
                refine .p rfl rfl rfl (fun wx hx => .mv rfl) ?_
                refine .p rfl rfl rfl (fun wx hx => .mv rfl) ?_
                refine .p rfl rfl rfl (fun wx hx => .indexAddr1 rfl rfl rfl rfl (by omega)) ?_
                refine .p rfl rfl rfl (fun wx hx => .load rfl rfl rfl (hx.cell hq' (by show ¬ lb = w.heap.size; omega))) ?_
                refine .p rfl rfl rfl (fun wx hx => .quo rfl rfl (by omega)) ?_
                refine .p rfl rfl rfl (fun wx hx => .indexAddr0 rfl rfl rfl rfl (by omega)) ?_
                refine .v rfl rfl rfl (.ofEv (.load rfl rfl rfl hb71)) (by rintro _ _ ⟨rfl, rfl⟩; exact .refl _) ?_
                rintro _ _ ⟨rfl, rfl⟩
                refine .p rfl rfl rfl (fun wx hx => .mv rfl) ?_
                refine .p rfl rfl rfl (fun wx hx => .mv rfl) ?_
                refine .p rfl rfl rfl (fun wx hx => .indexAddr1 rfl rfl rfl rfl (by omega)) ?_
                refine .p rfl rfl rfl (fun wx hx => .load rfl rfl rfl (hx.cell hq' (by show ¬ lb = w.heap.size; omega))) ?_
                refine .p rfl rfl rfl (fun wx hx => .rem rfl rfl (by omega)) ?_
                refine .p rfl rfl rfl (fun wx hx => .shl8 (a := 1) (q % 8) rfl rfl (by omega)) ?_
                refine .p rfl rfl rfl (fun wx hx => .or8 rfl rfl) ?_
                refine .p rfl rfl rfl (fun wx hx => .indexAddr0 rfl rfl rfl rfl (by omega)) ?_
                refine .s rfl rfl (.store rfl rfl rfl rfl rfl hB' (by simp; omega)) (by intro w2 P; exact P.ext) ?_
                intro w80 P80
                refine .nil (.blk (.code (.keep [(10, _), (9, _), (8, _), (0, _), (7, _), (1, _)] ⟨rfl, rfl, rfl, rfl, rfl, rfl, trivial⟩ (.region ?_))))
                refine .p rfl rfl (.mv rfl) ?_
                refine .p rfl rfl (.add rfl rfl (by omega)) ?_
                refine .p rfl rfl (.as rfl) ?_
                refine .nil ?_
                have hs1 : setAll (makeTo keys m i) ((marksL keys[i] m).take (k + 1)) = setBit (setAll (makeTo keys m i) ((marksL keys[i] m).take k)) q := by
                  rw [List.take_succ_eq_append_getElem hk, setAll, List.foldl_append]
                  simp [hq0, setAll]
                refine (again' (k + 1, w80) ⟨by show k + 1 ≤ _; omega, ?_, hX'.trans P80.ext⟩ (by show _ - (k + 1) < _ - k; omega)).of ⟨rfl, rfl, rfl, rfl, rfl, rfl, trivial⟩
                show Blk w80 _ _ _
                rw [hs1]
                have hb := P80.blk
                have e : ((setAll (makeTo keys m i) ((marksL keys[i] m).take k)).map u8).set (q / 8) (u8 ((setAll (makeTo keys m i) ((marksL keys[i] m).take k))[q / 8] ||| 1 <<< UInt8.ofNat (q % 8))) = (setBit (setAll (makeTo keys m i) ((marksL keys[i] m).take k)) q).map u8 := by
                  unfold setBit
                  rw [List.map_set, List.getD, List.getElem?_eq_getElem hq8]
                  rfl
                rw [← e]
                exact hb
              · refine .exit rfl (.blk (.code (.keep [(8, _), (0, _), (7, _), (1, _)] ⟨rfl, rfl, rfl, rfl, trivial⟩ (.region ?_))))
                refine .p rfl rfl (.mv rfl) ?_
                refine .p rfl rfl (.add rfl rfl (by omega)) ?_
                refine .p rfl rfl (.as rfl) ?_
                refine .nil ?_
                have hfin : setAll (makeTo keys m i) ((marksL keys[i] m).take k) = makeTo keys m (i + 1) := by
                  rw [makeTo_succ keys m i hi, List.take_of_length_le (by omega)]
                exact (again (i + 1, w55) ⟨by show i + 1 ≤ _; omega, by show Blk w55 _ _ _; rw [← hfin]; exact hB', hX.trans ((X51.mono (fun _ _ hf => hf.elim)).trans hX')⟩ (by show _ - (i + 1) < _ - i; omega)).of ⟨rfl, rfl, rfl, rfl, trivial⟩
            · refine .exit rfl (.code (.seq (.keep [(7, _)] ⟨rfl, trivial⟩ (.region ?_))))
              refine .p rfl rfl (.mv rfl) ?_
              refine .p rfl rfl (.as rfl) ?_
              refine .p rfl rfl (.as rfl) ?_
              refine .nil (.code ?_)
              refine .ret _ rfl ?_
              have hany : ¬ keys.any (fun k => decide (256 < k.length)) = true := by
                simp only [Bool.not_eq_true, List.any_eq_false, decide_eq_true_eq]
                intro k hk
                obtain ⟨j, hj, rfl⟩ := List.mem_iff_getElem.1 hk
                have := hkey j hj
                omega
              have e : makeF keys ↑m = (makeL keys m, 0) := by unfold makeF; rw [if_neg (by omega), if_neg hany, if_neg (by omega)]; rfl
              rw [e]
              obtain rfl : i = keys.length := by omega
              have e2 := makeTo_all keys m
              have hl2 : (makeL keys m).length = m / 8 := by rw [← e2, makeTo_length]
              rw [e2] at hB
              refine ⟨_, rfl, Sl.mkBytesB hB (by rw [List.take_of_length_le (by simp)]) (by show w.heap.size ≤ w.heap.size; omega) (by show (makeL keys m).length ≤ m / 8; omega) (by show (makeL keys m).length < Lim; simp only [Lim]; omega) hl2.symm, X39.then hX (by intro k hk _; omega)⟩
end Go.Proofs.Ythkgadhamecnlaa
