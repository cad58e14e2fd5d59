
/-
  PageTurned: walked.
-/
import Derived.Test.YthkgadhamecnlaaLaw08a
import Derived.Test.YthkgadhamecnlaaLaw08b
import Derived.Test.YthkgadhamecnlaaBy
import Derived.Test.YthkgadhamecnlaaEqual
set_option linter.unusedVariables false
set_option linter.unusedSimpArgs false
set_option maxRecDepth 20000
namespace Go.Proofs.Ythkgadhamecnlaa
open Go page
theorem s1_zero {r : UInt32} (h : s1 r = 0) : r = 0 := by
  unfold s1 at h
  cases hl : low r with
  | true =>
    rw [hl] at h
    simp only [if_true] at h
    have h2 : r / 2 = 3988292384 := UInt32.xor_eq_zero_iff.1 h
    have h3 := congrArg UInt32.toNat h2
    rw [UInt32.toNat_div] at h3
    have := r.toNat_lt
    simp at h3
    omega
  | false =>
    rw [hl] at h
    simp only [Bool.false_eq_true, if_false] at h
    have h3 := congrArg UInt32.toNat h
    rw [UInt32.toNat_div] at h3
    unfold low at hl
    simp at h3 hl
    apply UInt32.toNat_inj.1
    show r.toNat = 0
    omega
theorem s1_inj {a b : UInt32} (h : s1 a = s1 b) : a = b := by
  refine UInt32.xor_eq_zero_iff.1 (s1_zero ?_)
  rw [s1_xor, h, UInt32.xor_self]
theorem s8_inj {a b : UInt32} (h : s8 a = s8 b) : a = b := s1_inj (s1_inj (s1_inj (s1_inj (s1_inj (s1_inj (s1_inj (s1_inj h)))))))
theorem step_injR {r q : UInt32} {x : UInt8} (h : crcStep r x = crcStep q x) : r = q := by
  rw [← s8_step, ← s8_step] at h
  have := congrArg (· ^^^ x.toUInt32) (s8_inj h)
  simpa [UInt32.xor_assoc] using this
theorem step_injX {r : UInt32} {x y : UInt8} (h : crcStep r x = crcStep r y) : x = y := by
  rw [← s8_step, ← s8_step] at h
  have h1 := congrArg (r ^^^ ·) (s8_inj h)
  have h2 : x.toUInt32 = y.toUInt32 := by simpa [← UInt32.xor_assoc] using h1
  have h3 := congrArg UInt32.toNat h2
  exact UInt8.toNat_inj.1 (by simpa using h3)
theorem fold_inj : ∀ (l : Bs) {a b : UInt32}, l.foldl crcStep a = l.foldl crcStep b → a = b
  | [], _, _, h => h
  | x :: l, _, _, h => step_injR (fold_inj l h)
theorem crc_set {l : Bs} {i : Nat} {c : UInt8} (hi : i < l.length) (hc : crc (l.set i c) = crc l) : c = l[i] := by
  have h0 := congrArg (fun z => ~~~ z) hc
  simp only [crc, UInt32.not_not] at h0
  have h1 : l = l.take i ++ l[i] :: l.drop (i + 1) := by rw [← List.drop_eq_getElem_cons hi, List.take_append_drop]
  have h2 : l.set i c = l.take i ++ c :: l.drop (i + 1) := by rw [List.set_eq_take_append_cons_drop, if_pos hi]
  rw [h2] at h0
  have h3 : List.foldl crcStep 0xffffffff l = List.foldl crcStep 0xffffffff (l.take i ++ l[i] :: l.drop (i + 1)) := by rw [← h1]
  rw [h3, List.foldl_append, List.foldl_append, List.foldl_cons, List.foldl_cons] at h0
  exact step_injX (fold_inj _ h0)
namespace page
theorem sum4_inj {a b : Bs} (h : sum4 a = sum4 b) : crc a = crc b := by
  have e : ∀ l, sum4 l = [byteOf (crc l).toNat 0, byteOf (crc l).toNat 1, byteOf (crc l).toNat 2, byteOf (crc l).toNat 3] := fun l => rfl
  rw [e, e] at h
  simp only [List.cons.injEq, and_true] at h
  obtain ⟨h0, h1, h2, h3⟩ := h
  have k : ∀ n m i, byteOf n i = byteOf m i → n / 2 ^ (8 * i) % 256 = m / 2 ^ (8 * i) % 256 := fun n m i hh => by
    have := congrArg UInt8.toNat hh
    simpa [byteOf] using this
  have k0 := k _ _ _ h0
  have k1 := k _ _ _ h1
  have k2 := k _ _ _ h2
  have k3 := k _ _ _ h3
  simp only [Nat.mul_zero, Nat.mul_one, Nat.pow_zero, Nat.div_one, Nat.reduceMul, Nat.reducePow] at k0 k1 k2 k3
  have := (crc a).toNat_lt
  have := (crc b).toNat_lt
  apply UInt32.toNat_inj.1
  omega
/-- what is no page at the first look -/
def badB (b : Bs) : Prop := b.length < 5 ∨ 65536 < b.length ∨ ¬ sum4 (b.take (b.length - 4)) = b.drop (b.length - 4)
theorem turned_bad {b : Bs} {i : Nat} {c : UInt8} (hi : i < (b ++ sum4 b).length) (hc : ¬ c = (b ++ sum4 b)[i]) : badB ((b ++ sum4 b).set i c) := by
  have h4 := sum4_length b
  have hl : ((b ++ sum4 b).set i c).length = b.length + 4 := by rw [List.length_set, List.length_append, h4]
  refine .inr (.inr ?_)
  rw [hl, Nat.add_sub_cancel]
  by_cases h : i < b.length
  · rw [List.set_append_left _ _ h, List.take_left' (by simp), List.drop_left' (by simp)]
    intro e
    have := crc_set h (sum4_inj e)
    rw [List.getElem_append_left h] at hc
    exact hc this
  · rw [List.set_append_right _ _ (by omega), List.take_left, List.drop_left]
    intro e
    have h5 : i - b.length < (sum4 b).length := by rw [List.length_append] at hi; omega
    have h6 : ((sum4 b).set (i - b.length) c)[i - b.length]? = some c := by rw [List.getElem?_set_self h5]
    rw [← e, List.getElem?_eq_getElem h5] at h6
    rw [List.getElem_append_right (by omega)] at hc
    exact hc (Option.some.inj h6).symm
theorem xor_ne {x y : UInt8} (h : ¬ y = 0) : ¬ x ^^^ y = x := fun e => h (by
  have := congrArg (x ^^^ ·) e
  simpa [← UInt8.xor_assoc] using this)
theorem make_ok {l : List Entry} (h : (makeE l).2 = 0) : (makeE l).1 = pageB l := by
  unfold makeE at h ⊢
  split
  · rename_i h1; rw [if_pos h1] at h; exact absurd h h1
  · rename_i h1
    rw [if_neg h1] at h
    split
    · rename_i h2; rw [if_pos h2] at h; cases h
    · rfl
end page
theorem ReadBad_fn {w : World} {v : Value} {b : Bs} (h : tBytes.rep All w v b) (hbad : badB b) : Fn Try.prog 49 [v] w (fun r w2 => r = .tuple #[.slice none 0 0, i64 8] ∧ Ext (fun _ => False) w w2) := by
  obtain ⟨a, cap, rfl, hcap⟩ := Sl.val h
  refine Fn.enter (fun w => Try.call49 _ w) Try.func49 rfl ?_
  refine .seq (.region ?_)
  refine .p rfl rfl (.as rfl) ?_
  refine .p rfl rfl (.as rfl) ?_
  refine .nil (.code (.seq (.seq (.keep [(0, _)] ⟨rfl, trivial⟩ (.mix (fun _ => False) [14, 20] (by kernel_rfl) (by kernel_rfl) (by kernel_rfl) ?_)))))
  refine .p rfl rfl rfl (fun wx hx => .mv rfl) ?_
  refine .p rfl rfl rfl (fun wx hx => .len rfl rfl) ?_
  refine .p rfl rfl rfl (fun wx hx => .lt rfl rfl) ?_
  refine .p rfl rfl rfl (fun wx hx => .mv rfl) ?_
  refine .caseD 14 rfl (fun c14 => ?_) (fun c14 => ?_)
  · refine .skip rfl rfl ?_
    refine .skip rfl rfl ?_
    refine .skip rfl rfl ?_
    refine .p rfl rfl rfl (fun wx hx => .pickT rfl rfl) ?_
    refine .p rfl rfl rfl (fun wx hx => .mv rfl) ?_
    refine .skip rfl rfl ?_
    refine .skip rfl rfl ?_
    refine .skip rfl rfl ?_
    refine .skip rfl rfl ?_
    refine .skip rfl rfl ?_
    refine .skip rfl rfl ?_
    refine .skip rfl rfl ?_
    refine .skip rfl rfl ?_
    refine .skip rfl rfl ?_
    refine .skip rfl rfl ?_
    refine .skip rfl rfl ?_
    refine .skip rfl rfl ?_
    refine .skip rfl rfl ?_
    refine .p rfl rfl rfl (fun wx hx => .pickT rfl rfl) ?_
    refine .nil (.code (.keep [(33, _), (0, _)] ⟨rfl, rfl, trivial⟩ (.condT rfl (.seq (.keep [] trivial (.region ?_))))))
    refine .p rfl rfl (.as rfl) ?_
    refine .p rfl rfl (.as rfl) ?_
    refine .nil (.code ?_)
    refine .ret _ rfl ?_
    exact ⟨rfl, .refl _⟩
  · refine .p rfl rfl rfl (fun wx hx => .mv rfl) ?_
    refine .p rfl rfl rfl (fun wx hx => .len rfl rfl) ?_
    refine .p rfl rfl rfl (fun wx hx => .gt rfl rfl) ?_
    refine .p rfl rfl rfl (fun wx hx => .pickF rfl rfl) ?_
    refine .p rfl rfl rfl (fun wx hx => .mv rfl) ?_
    refine .caseD 19 rfl (fun c19 => ?_) (fun c19 => ?_)
    · refine .skip rfl rfl ?_
      refine .skip rfl rfl ?_
      refine .skip rfl rfl ?_
      refine .skip rfl rfl ?_
      refine .skip rfl rfl ?_
      refine .skip rfl rfl ?_
      refine .skip rfl rfl ?_
      refine .skip rfl rfl ?_
      refine .skip rfl rfl ?_
      refine .skip rfl rfl ?_
      refine .skip rfl rfl ?_
      refine .skip rfl rfl ?_
      refine .skip rfl rfl ?_
      refine .p rfl rfl rfl (fun wx hx => .pickT rfl rfl) ?_
      refine .nil (.code (.keep [(33, _), (0, _)] ⟨rfl, rfl, trivial⟩ (.condT rfl (.seq (.keep [] trivial (.region ?_))))))
      refine .p rfl rfl (.as rfl) ?_
      refine .p rfl rfl (.as rfl) ?_
      refine .nil (.code ?_)
      refine .ret _ rfl ?_
      exact ⟨rfl, .refl _⟩
    · have e4 : ((b.length : Int) - 4).toNat = b.length - 4 := by omega
      obtain ⟨a24, c24, hv24, hc24, R24⟩ := Sl.cutE h 0 (b.length - 4) (by omega) (by omega)
      obtain ⟨a30, c30, hv30, hc30, R30⟩ := Sl.cutE h (b.length - 4) b.length (by omega) (by omega)
      rw [List.take_length] at R30
      rw [List.drop_zero] at R24
      refine .p rfl rfl rfl (fun wx hx => .mv rfl) ?_
      refine .p rfl rfl rfl (fun wx hx => .mv rfl) ?_
      refine .p rfl rfl rfl (fun wx hx => .len rfl rfl) ?_
      refine .p rfl rfl rfl (fun wx hx => .sub rfl rfl (by omega)) ?_
      refine .p rfl rfl rfl (fun wx hx => .cast (.cutHi (s := 1) rfl rfl rfl rfl (by omega)) (show cutV 1 a cap 0 ((b.length : Int) - 4).toNat = .slice a24 (b.length - 4 - 0) c24 by rw [e4]; exact hv24)) ?_
      refine .call (first := []) (captured := []) rfl rfl rfl rfl rfl (psum_fn R24) (by rintro _ _ ⟨_, hx⟩; exact hx) ?_
      rintro r25 w25 ⟨R25, X25⟩
      refine .p rfl rfl rfl (fun wx hx => .mv rfl) ?_
      refine .p rfl rfl rfl (fun wx hx => .mv rfl) ?_
      refine .p rfl rfl rfl (fun wx hx => .len rfl rfl) ?_
      refine .p rfl rfl rfl (fun wx hx => .sub rfl rfl (by omega)) ?_
      refine .p rfl rfl rfl (fun wx hx => .cast (.cutLo (s := 1) rfl rfl rfl rfl (by omega)) (show cutV 1 a cap ((b.length : Int) - 4).toNat b.length = .slice a30 (b.length - (b.length - 4)) c30 by rw [e4]; exact hv30)) ?_
      refine .call (first := []) (captured := []) rfl rfl rfl rfl rfl (bytesEqual_fn (allOf R25) (tBytes.ext0 R30 X25)) (by rintro _ _ ⟨_, hx⟩; exact X25.trans hx) ?_
      rintro _ w31 ⟨rfl, X31⟩
      refine .p rfl rfl rfl (fun wx hx => .notD rfl) ?_
      refine .p rfl rfl rfl (fun wx hx => .pickF rfl rfl) ?_
      refine .nil (.code (.keep [(33, _), (0, _)] ⟨rfl, rfl, trivial⟩ ?_))
      refine .condD rfl (fun c33 => ?_) (fun c33 => ?_)
      · refine .seq (.keep [] trivial (.region ?_))
        refine .p rfl rfl (.as rfl) ?_
        refine .p rfl rfl (.as rfl) ?_
        refine .nil (.code ?_)
        refine .ret _ rfl ?_
        exact ⟨rfl, X25.trans X31⟩
      · exfalso
        rcases hbad with h1 | h1 | h1
        · omega
        · omega
        · exact h1 (Decidable.not_not.1 c33)
end Go.Proofs.Ythkgadhamecnlaa
