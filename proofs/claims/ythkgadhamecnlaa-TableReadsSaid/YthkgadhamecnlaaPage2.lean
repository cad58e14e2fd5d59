
/-
  Package page: a page of entries; two of them; a first page.
-/
import Derived.Test.YthkgadhamecnlaaPage1
import Derived.Test.YthkgadhamecnlaaPut
import Derived.Test.YthkgadhamecnlaaSum
set_option linter.unusedVariables false
set_option linter.unusedSimpArgs false
set_option maxRecDepth 20000
namespace Go.Proofs.Ythkgadhamecnlaa
open Go page
namespace page
/-- how many bytes two texts begin with together -/
def preN : Bs → Bs → Nat
  | a :: x, b :: y => if a = b then preN x y + 1 else 0
  | _, _ => 0
theorem preN_nil (a : Bs) : preN a [] = 0 := by cases a <;> rfl
theorem preN_step {a b : Bs} {k : Nat} (h1 : k < a.length) (h2 : k < b.length) : preN (a.drop k) (b.drop k) = if a[k] = b[k] then preN (a.drop (k + 1)) (b.drop (k + 1)) + 1 else 0 := by
  rw [List.drop_eq_getElem_cons h1, List.drop_eq_getElem_cons h2, preN]
theorem preN_end {a b : Bs} {k : Nat} (h : ¬ (k < a.length ∧ k < b.length)) : preN (a.drop k) (b.drop k) = 0 := by
  by_cases h1 : k < a.length
  · rw [List.drop_of_length_le (l := b) (by omega), preN_nil]
  · rw [List.drop_of_length_le (l := a) (by omega)]
    rfl
theorem preN_le : ∀ a b : Bs, preN a b ≤ a.length ∧ preN a b ≤ b.length
  | [], b => by simp [preN]
  | a :: x, [] => by simp [preN]
  | a :: x, b :: y => by
    rw [preN]
    split
    · have := preN_le x y
      simp
      omega
    · simp
def goneB (x : Entry) : Bs := if x.gone = true then [1] else 0 :: textF x.value
def entB (ahead : Bs) (x : Entry) : Bs := smallF (preN ahead x.key) ++ textF (x.key.drop (preN ahead x.key)) ++ smallF x.seq.toNat ++ goneB x
def stepB (s : Bs × Bs) (x : Entry) : Bs × Bs := (s.1 ++ entB s.2 x, x.key)
def bodyB (l : List Entry) : Bs := (l.foldl stepB (smallF l.length, [])).1
def sum4 (b : Bs) : Bs := (put8 (crc b).toNat).take 4
def pageB (l : List Entry) : Bs := bodyB l ++ sum4 (bodyB l)
def makeE (l : List Entry) : Bs × Int := if ¬ checkE l = 0 then ([], checkE l) else if 65536 < (pageB l).length then ([], 7) else (pageB l, 0)
theorem fold_length : ∀ (l : List Entry) (s : Bs × Bs), s.1.length ≤ (l.foldl stepB s).1.length
  | [], s => Nat.le_refl _
  | x :: l, s => by
    have h := fold_length l (stepB s x)
    rw [List.foldl_cons]
    refine Nat.le_trans ?_ h
    simp [stepB]
theorem textF_length (l : Bs) : (textF l).length ≤ 10 + l.length := by
  have := smallF_length l.length
  simp [textF]
  omega
theorem sum4_length (b : Bs) : (sum4 b).length = 4 := by simp [sum4, put8_length]
theorem check_ok {l : List Entry} (h : checkE l = 0) : l.length ≤ 4096 ∧ ∀ x ∈ l, oneE x = 0 := by
  unfold checkE at h
  split at h
  · cases h
  · exact ⟨by omega, chk_ok h⟩
end page
theorem psum_fn {w : World} {v : Value} {l : Bs} (h : tBytes.rep All w v l) : Fn Try.prog 56 [v] w (fun r w2 => tBytes.rep (fun k => w.heap.size ≤ k) w2 r (sum4 l) ∧ Ext (fun _ => False) w w2) := by
  refine Fn.enter (fun w => Try.call56 _ w) Try.func56 rfl ?_
  refine .seq (.region ?_)
  refine .p rfl rfl (.as rfl) ?_
  refine .nil (.code (.seq (.keep [(0, _)] ⟨rfl, trivial⟩ (.region ?_))))
  refine .p rfl rfl (.mv rfl) ?_
  refine .call (first := []) (captured := []) rfl rfl rfl rfl (Sum_fn h) ?_
  rintro _ w4 ⟨rfl, X4⟩
  have z4 := X4.size
  have hlt := (crc l).toNat_lt
  refine .p rfl rfl (.conv32_U rfl rfl rfl) ?_
  refine .call (first := []) (captured := []) rfl rfl rfl rfl (Put_fn (n := (crc l).toNat) (by omega)) ?_
  rintro r6 w6 ⟨R6, X6⟩
  obtain ⟨a6, c6, rfl, hc6⟩ := Sl.val R6
  rw [put8_length] at R6 hc6
  obtain ⟨a7, c7, hv7, hc7, R7⟩ := Sl.cutE R6 0 4 (by omega) (by omega)
  rw [put8_length]
  refine .p rfl rfl (.cast (.cutHi (s := 1) rfl rfl rfl rfl (by omega)) (show cutV 1 a6 c6 0 (4 : Int).toNat = _ from hv7)) ?_
  refine .p rfl rfl (.as rfl) ?_
  refine .nil (.code ?_)
  refine .ret _ rfl ?_
  exact ⟨tBytes.mono R7 (fun k hk _ => by have hk : w4.heap.size ≤ k := hk; show w.heap.size ≤ k; omega), X4.trans X6⟩
theorem Make_fn {w : World} {v : Value} {l : List Entry} (h : (Sl tEntry).rep All w v l) : Fn Try.prog 21 [v] w (fun r w2 => ∃ v', r = .tuple #[v', i64 (makeE l).2] ∧ Gr w2 v' (makeE l).1 w.heap.size ∧ Ext (fun _ => False) w w2) := by
  obtain ⟨a, cap, rfl, hcap⟩ := Sl.val h
  refine Fn.enter (fun w => Try.call21 _ w) Try.func21 rfl ?_
  refine .seq (.region ?_)
  refine .p rfl rfl (.as rfl) ?_
  refine .p rfl rfl (.as rfl) ?_
  refine .nil (.code (.seq (.seq (.keep [(0, _)] ⟨rfl, trivial⟩ (.region ?_)))))
  refine .p rfl rfl (.mv rfl) ?_
  refine .call (first := []) (captured := []) rfl rfl rfl rfl (Check_fn h) ?_
  rintro _ w13 ⟨rfl, X13⟩
  have z13 : w.heap.size ≤ w13.heap.size := X13.size
  refine .p rfl rfl (.as rfl) ?_
  refine .nil (.code (.seq (.keep [(4, _), (0, _)] ⟨rfl, rfl, trivial⟩ (.region ?_))))
  refine .p rfl rfl (.mv rfl) ?_
  refine .p rfl rfl (.ne rfl rfl) ?_
  refine .nil (.code (.keep [(15, _), (4, _), (0, _)] ⟨rfl, rfl, rfl, trivial⟩ ?_))
  refine .condD rfl (fun c15 => ?_) (fun c15 => ?_)
  · refine .seq (.keep [(4, _)] ⟨rfl, trivial⟩ (.region ?_))
    refine .p rfl rfl (.mv rfl) ?_
    refine .p rfl rfl (.as rfl) ?_
    refine .p rfl rfl (.as rfl) ?_
    refine .nil (.code ?_)
    refine .ret _ rfl ?_
    exact ⟨_, by unfold makeE; rw [if_pos c15]; rfl, by unfold makeE; rw [if_pos c15]; exact OwnO.nil, X13⟩
  · obtain ⟨hl4, hone⟩ := check_ok (Decidable.not_not.1 c15)
    refine .skip (.code (.seq (.keep [(0, _)] ⟨rfl, trivial⟩ (.region ?_))))
    refine .p rfl rfl (.mv rfl) ?_
    refine .p rfl rfl (.len rfl rfl) ?_
    refine .p rfl rfl (.convU rfl rfl rfl (by omega)) ?_
    refine .call (first := []) (captured := []) rfl rfl rfl rfl (Small_fn (n := l.length) (by omega)) ?_
    rintro r20 w20 ⟨G20, X20⟩
    have hs20 := smallF_length l.length
    have G20 := Gr.low G20 z13
    refine .p rfl rfl (.as rfl) ?_
    refine .nil (.code (.seq (.keep [(5, _), (0, _)] ⟨rfl, rfl, trivial⟩ (.region ?_))))
    refine .p rfl rfl (.as rfl) ?_
    refine .nil (.code (.seq (.seq (.region ?_))))
    refine .p rfl rfl (.mv rfl) ?_
    refine .p rfl rfl (.len rfl rfl) ?_
    refine .p rfl rfl (.mv rfl) ?_
    refine .nil (.code (.block (.keep [(23, _), (22, _), (21, _), (6, _), (5, _)] ⟨rfl, rfl, rfl, rfl, rfl, trivial⟩ ?_)))
    refine .loop (S := Nat × Bs × Bs × Value × World) (fun s => [(5, s.2.2.2.1), (6, str s.2.2.1), (21, .slice a l.length cap), (22, i64 l.length), (23, i64 s.1)]) (fun s => s.2.2.2.2) (fun s => s.1 ≤ l.length ∧ (l.take s.1).foldl stepB (smallF l.length, []) = (s.2.1, s.2.2.1) ∧ s.2.1.length ≤ 65536 ∧ s.2.2.1.length ≤ 256 ∧ Gr s.2.2.2.2 s.2.2.2.1 s.2.1 w.heap.size ∧ Ext (fun _ => False) w s.2.2.2.2) (fun s => l.length - s.1) (0, smallF l.length, [], r20, w20) ⟨rfl, rfl, rfl, rfl, rfl, trivial⟩ rfl ⟨Nat.zero_le _, rfl, by show (smallF l.length).length ≤ 65536; omega, Nat.zero_le _, G20, X13.trans X20⟩ ?_
    rintro ⟨i, acc, ahead, v5, wi⟩ J ⟨hi', hfold, hacc, hah, hG, hX⟩ again
    simp only at hi' hfold hacc hah hG hX
    have zwi : w.heap.size ≤ wi.heap.size := hX.size
    change G _ [(5, v5), (6, str ahead), (21, .slice a l.length cap), (22, i64 l.length), (23, i64 i)] _ _ wi
    refine .seq (.region ?_)
    refine .p rfl rfl (.lt rfl rfl) ?_
    refine .nil (.code (.seq ?_))
    refine .condD rfl (fun c24 => ?_) (fun c24 => ?_)
    · have hi : i < l.length := by omega
      obtain ⟨b0, o0, c0, ue, e, _, hcs, hre⟩ := Sl.at h (List.getElem?_eq_getElem hi)
      cases e
      obtain ⟨rfl, h1, h2, h3⟩ := tEntry.val hre
      obtain ⟨k1, k2, k3, k4, k5, k6⟩ := one_ok (hone _ (List.getElem_mem hi))
      refine .skip (.code (.seq (.block (.seq (.keep [(5, _), (6, _), (21, _), (22, _), (23, _)] ⟨rfl, rfl, rfl, rfl, rfl, trivial⟩ (.region ?_))))))
      refine .p rfl rfl (.indexAddr (s := 4) rfl rfl rfl rfl (by omega)) ?_
      refine .p rfl rfl (.loadA (n := 4) rfl rfl rfl rfl rfl (hcs.ext hX (fun x => x))) ?_
      refine .v rfl rfl (.alloc rfl rfl) ?_
      rintro _ w8 ⟨rfl, N8⟩
      refine .s rfl (.storeAll (n := 4) rfl rfl rfl rfl rfl N8.blk rfl) ?_
      intro w9 P8
      have X8 := N8.ext.then P8.ext (by rintro k rfl _; exact Nat.le_refl _)
      have B8 := P8.blk
      have z8 : w9.heap.size = wi.heap.size + 1 := by rw [P8.size, N8.size]
      refine .nil (.code (.seq (.keep [(8, _), (5, _), (6, _), (21, _), (22, _), (23, _)] ⟨rfl, rfl, rfl, rfl, rfl, rfl, trivial⟩ (.region ?_))))
      refine .p rfl rfl (.as rfl) ?_
      refine .nil (.code (.seq (.block ?_)))
      refine .loop (S := Nat) (fun s => [(5, v5), (6, str ahead), (8, .pointer (some ⟨wi.heap.size, 0, none⟩)), (9, i64 s), (21, .slice (some ⟨b0, o0, none⟩) l.length cap), (22, i64 l.length), (23, i64 i)]) (fun s => w9) (fun s => s ≤ ahead.length ∧ s ≤ l[i].key.length ∧ preN ahead l[i].key = s + preN (ahead.drop s) (l[i].key.drop s)) (fun s => ahead.length - s) 0 ⟨rfl, rfl, rfl, rfl, rfl, rfl, rfl, trivial⟩ rfl ⟨Nat.zero_le _, Nat.zero_le _, by rw [Nat.zero_add]; rfl⟩ ?_
      rintro k J2 ⟨hk1, hk2, hpre⟩ again2
      refine .seq (.seq ?_)
      refine .meet (S := Bool) (fun s => [(5, v5), (6, str ahead), (8, .pointer (some ⟨wi.heap.size, 0, none⟩)), (9, i64 k), (21, .slice (some ⟨b0, o0, none⟩) l.length cap), (22, i64 l.length), (23, i64 i), (44, .bool s)]) (fun s => w9) (fun s => (s = true → k < ahead.length ∧ k < l[i].key.length ∧ preN ahead l[i].key = k + 1 + preN (ahead.drop (k + 1)) (l[i].key.drop (k + 1))) ∧ (s = false → preN ahead l[i].key = k)) ?_ ?_
      · rintro q hq
        refine .code ?_
        refine .cond rfl (fun c44 => ?_) (fun c44 => ?_)
        · obtain ⟨ka, kb, hp2⟩ := hq.1 c44
          refine .skip (.code (.block (.keep [(5, _), (6, _), (8, _), (9, _), (21, _), (22, _), (23, _)] ⟨rfl, rfl, rfl, rfl, rfl, rfl, rfl, trivial⟩ (.region ?_))))
          refine .p rfl rfl (.mv rfl) ?_
          refine .p rfl rfl (.add rfl rfl (by omega)) ?_
          refine .p rfl rfl (.as rfl) ?_
          refine .nil (.blk ?_)
          exact (again2 (k + 1) ⟨by omega, by omega, hp2⟩ (by show _ - (k + 1) < _ - k; omega)).of ⟨rfl, rfl, rfl, rfl, rfl, rfl, rfl, trivial⟩
        · have hpk := hq.2 c44
          have hsm1 := smallF_length k
          have hsm2 := smallF_length l[i].seq.toNat
          have htx1 := textF_length (l[i].key.drop k)
          have htx2 := textF_length l[i].value
          have hdl : (l[i].key.drop k).length ≤ 256 := by simp; omega
          refine .exit rfl (.code (.seq (.keep [(5, _), (8, _), (9, _), (21, _), (22, _), (23, _)] ⟨rfl, rfl, rfl, rfl, rfl, rfl, trivial⟩ (.region ?_))))
          refine .p rfl rfl (.fieldAddr rfl rfl rfl rfl) ?_
          refine .p rfl rfl (.load rfl rfl rfl (B8.cell 0)) ?_
          refine .v rfl rfl (.strBytes rfl rfl rfl rfl) ?_
          rintro _ w49 ⟨cap49, cs49, rfl, hc49, hn49, hs49, N49⟩
          have R49 := strBytes_rep (h1) hc49 hs49 N49
          refine .p rfl rfl (.as rfl) ?_
          refine .nil (.code (.seq (.keep [(10, _), (5, _), (8, _), (9, _), (21, _), (22, _), (23, _)] ⟨rfl, rfl, rfl, rfl, rfl, rfl, rfl, trivial⟩ (.region ?_))))
          refine .p rfl rfl (.mv rfl) ?_
          refine .p rfl rfl (.mv rfl) ?_
          refine .p rfl rfl (.mv rfl) ?_
          refine .p rfl rfl (.len rfl rfl) ?_
          refine .p rfl rfl (.mv rfl) ?_
          refine .p rfl rfl (.len rfl rfl) ?_
          have R56 := Sl.recap R49 (Nat.le_refl _) hc49
          obtain ⟨a56, c56, hv56, hc56, R56⟩ := Sl.cutE R56 k l[i].key.length (by omega) (by omega)
          rw [List.take_length] at R56
          have z49 : w49.heap.size = w9.heap.size + 1 := N49.size
          have R56 := tBytes.mono R56 (P' := fun j => w9.heap.size ≤ j ∧ j < w49.heap.size) (fun j h1 h2 => ⟨h1, h2⟩)
          refine .p rfl rfl (.cast (.cut3 (s := 1) rfl rfl rfl rfl rfl rfl (by omega)) (show cutV 1 _ ((l[i].key.length : Int)).toNat (k : Int).toNat ((l[i].key.length : Int)).toNat = _ from hv56)) ?_
          refine .p rfl rfl (.as rfl) ?_
          refine .nil (.code (.seq (.keep [(11, _), (5, _), (8, _), (9, _), (21, _), (22, _), (23, _)] ⟨rfl, rfl, rfl, rfl, rfl, rfl, rfl, trivial⟩ (.region ?_))))
          refine .p rfl rfl (.mv rfl) ?_
          refine .p rfl rfl (.mv rfl) ?_
          refine .p rfl rfl (.convU rfl rfl rfl (by omega)) ?_
          refine .call (first := []) (captured := []) rfl rfl rfl rfl (Small_fn (n := k) (by omega)) ?_
          rintro r60 w60 ⟨G60, X60⟩
          have z60 : w49.heap.size ≤ w60.heap.size := X60.size
          have hGB : OwnO tByte (fun _ => False) 5 w60 v5 acc (fun k => (w.heap.size ≤ k ∧ k < wi.heap.size) ∨ w60.heap.size ≤ k) := ((OwnO.mono hG (fun _ h _ => h) (fun j h1 h2 => (.inl ⟨h1, h2⟩ : (w.heap.size ≤ j ∧ j < wi.heap.size) ∨ w60.heap.size ≤ j))).ext0 X8).ext0 (N49.ext.trans X60)
          have B8 := B8.ext (N49.ext.trans X60) (fun x => x)
          have R56 := tBytes.ext0 R56 X60
          have Zx : Ext (fun _ => False) w w60 := hX.trans (X8.trans (N49.ext.trans X60))
          have zx : w.heap.size ≤ wi.heap.size := hX.size
          have hBw : ∀ (m j : Nat), (w.heap.size ≤ j ∧ j < wi.heap.size) ∨ w60.heap.size ≤ j → j < m → w.heap.size ≤ j := fun m j h _ => by rcases h with h | h <;> omega
          refine .v rfl rfl (.appendLo (t := tByte) (eb := 1) rfl hGB (fun k hk => by have hk : w60.heap.size ≤ k := hk; exact .inr (by omega)) rfl (Gr.holds (Gr.rep G60)) rfl rfl rfl rfl rfl rfl rfl (by simp; omega) (by simp [Lim]; omega) (fun _ h _ => h.elim)) ?_
          rintro r61 w61 ⟨G61, Y61⟩
          have z61 : w60.heap.size ≤ w61.heap.size := Y61.size
          refine .p rfl rfl (.as rfl) ?_
          refine .nil (.code (.seq (.keep [(5, _), (11, _), (8, _), (21, _), (22, _), (23, _)] ⟨rfl, rfl, rfl, rfl, rfl, rfl, trivial⟩ (.region ?_))))
          refine .p rfl rfl (.mv rfl) ?_
          refine .p rfl rfl (.mv rfl) ?_
          refine .p rfl rfl (.bytesStr rfl (tBytes.ext R56 Y61 (fun j hj _ h => by have hj : w9.heap.size ≤ j ∧ j < w49.heap.size := hj; rcases h with h | h <;> omega)) rfl rfl rfl) ?_
          refine .call (first := []) (captured := []) rfl rfl rfl rfl (Text_fn (l := l[i].key.drop k) (by simp only [Lim]; simp; omega) (by simp only [Lim]; simp; omega)) ?_
          rintro r65 w65 ⟨G65, X65⟩
          have z65 : w61.heap.size ≤ w65.heap.size := X65.size
          have B8 := (B8.ext Y61 (fun h => by rcases h with h | h <;> omega)).ext X65 (fun x => x)
          refine .v rfl rfl (.appendLo (t := tByte) (eb := 1) rfl (OwnO.ext0 G61 X65) (fun k hk => by have hk : w65.heap.size ≤ k := hk; exact .inr (by omega)) rfl (Gr.holds (Gr.rep G65)) rfl rfl rfl rfl rfl rfl rfl (by simp; omega) (by simp [Lim]; omega) (fun _ h _ => h.elim)) ?_
          rintro r66 w66 ⟨G66, Y66⟩
          have z66 : w65.heap.size ≤ w66.heap.size := Y66.size
          refine .p rfl rfl (.as rfl) ?_
          refine .nil (.code (.seq (.keep [(5, _), (8, _), (21, _), (22, _), (23, _)] ⟨rfl, rfl, rfl, rfl, rfl, trivial⟩ (.region ?_))))
          refine .p rfl rfl (.mv rfl) ?_
          refine .p rfl rfl (.fieldAddr rfl rfl rfl rfl) ?_
          refine .p rfl rfl (.load rfl rfl rfl ((B8.ext Y66 (fun h => by rcases h with h | h <;> omega)).cell 2)) ?_
          refine .p rfl rfl (.cast (.convU rfl rfl rfl (by omega)) (show _ = Value.int .u64 ((l[i].seq.toNat : Nat) : Int) by rw [Int.toNat_of_nonneg (by omega)])) ?_
          refine .call (first := []) (captured := []) rfl rfl rfl rfl (Small_fn (n := l[i].seq.toNat) (by omega)) ?_
          rintro r71 w71 ⟨G71, X71⟩
          have z71 : w66.heap.size ≤ w71.heap.size := X71.size
          have B8 := (B8.ext Y66 (fun h => by rcases h with h | h <;> omega)).ext X71 (fun x => x)
          refine .v rfl rfl (.appendLo (t := tByte) (eb := 1) rfl (OwnO.ext0 G66 X71) (fun k hk => by have hk : w71.heap.size ≤ k := hk; exact .inr (by omega)) rfl (Gr.holds (Gr.rep G71)) rfl rfl rfl rfl rfl rfl rfl (by simp; omega) (by simp [Lim]; omega) (fun _ h _ => h.elim)) ?_
          rintro r72 w72 ⟨G72, Y72⟩
          have z72 : w71.heap.size ≤ w72.heap.size := Y72.size
          refine .p rfl rfl (.as rfl) ?_
          refine .nil (.code (.seq (.seq (.keep [(5, _), (8, _), (21, _), (22, _), (23, _)] ⟨rfl, rfl, rfl, rfl, rfl, trivial⟩ (.region ?_)))))
          refine .p rfl rfl (.fieldAddr rfl rfl rfl rfl) ?_
          refine .p rfl rfl (.load rfl rfl rfl ((B8.ext Y72 (fun h => by rcases h with h | h <;> omega)).cell 3)) ?_
          refine .nil (.code (.keep [(74, _), (5, _), (8, _), (21, _), (22, _), (23, _)] ⟨rfl, rfl, rfl, rfl, rfl, rfl, trivial⟩ ?_))
          refine .meet (S := Value × World) (fun s => [(5, s.1), (8, .pointer (some ⟨wi.heap.size, 0, none⟩)), (21, .slice (some ⟨b0, o0, none⟩) l.length cap), (22, i64 l.length), (23, i64 i)]) (fun s => s.2) (fun s => OwnO tByte (fun _ => False) 5 s.2 s.1 (acc ++ entB ahead l[i]) (fun k => (w.heap.size ≤ k ∧ k < wi.heap.size) ∨ w60.heap.size ≤ k) ∧ Blk s.2 wi.heap.size 33 [str l[i].key, str l[i].value, i64 l[i].seq, .bool l[i].gone] ∧ Ext (fun _ => False) w s.2) ?_ ?_
          · rintro ⟨v5', wm⟩ ⟨hGm, Bm, Xm⟩
            simp only at hGm Bm Xm
            obtain ⟨am, cm, rfl, hcm⟩ := OwnO.val hGm
            have zm : w.heap.size ≤ wm.heap.size := Xm.size
            refine .code (.seq (.region ?_))
            refine .p rfl rfl (.fieldAddr rfl rfl rfl rfl) ?_
            refine .p rfl rfl (.load rfl rfl rfl (Bm.cell 0)) ?_
            refine .p rfl rfl (.as rfl) ?_
            refine .nil (.code (.seq (.keep [(6, _), (5, _), (21, _), (22, _), (23, _)] ⟨rfl, rfl, rfl, rfl, rfl, trivial⟩ (.region ?_))))
            refine .p rfl rfl (.mv rfl) ?_
            refine .p rfl rfl (.len rfl rfl) ?_
            refine .p rfl rfl (.gt rfl rfl) ?_
            refine .nil (.code (.keep [(89, _), (6, _), (5, _), (21, _), (22, _), (23, _)] ⟨rfl, rfl, rfl, rfl, rfl, rfl, trivial⟩ ?_))
            refine .condD rfl (fun c89 => ?_) (fun c89 => ?_)
            · refine .seq (.keep [] trivial (.region ?_))
              refine .p rfl rfl (.as rfl) ?_
              refine .p rfl rfl (.as rfl) ?_
              refine .nil (.code ?_)
              refine .ret _ rfl ?_
              have hst : (l.take (i + 1)).foldl stepB (smallF l.length, []) = (acc ++ entB ahead l[i], l[i].key) := by rw [List.take_succ_eq_append_getElem hi, List.foldl_append, hfold]; rfl
              have hbig : 65536 < (pageB l).length := by
                have h5 := fold_length (l.drop (i + 1)) ((l.take (i + 1)).foldl stepB (smallF l.length, []))
                rw [← List.foldl_append, List.take_append_drop, hst] at h5
                have h6 : (bodyB l).length ≤ (pageB l).length := by simp [pageB]
                have h7 : (acc ++ entB ahead l[i]).length ≤ (bodyB l).length := h5
                omega
              have e : makeE l = ([], 7) := by unfold makeE; rw [if_neg c15, if_pos hbig]
              rw [e]
              exact ⟨_, rfl, OwnO.nil, Xm⟩
            · refine .skip (.blk (.code (.keep [(6, _), (5, _), (21, _), (22, _), (23, _)] ⟨rfl, rfl, rfl, rfl, rfl, trivial⟩ (.region ?_))))
              refine .p rfl rfl (.add rfl rfl (by omega)) ?_
              refine .p rfl rfl (.mv rfl) ?_
              refine .nil ?_
              have hst : (l.take (i + 1)).foldl stepB (smallF l.length, []) = (acc ++ entB ahead l[i], l[i].key) := by rw [List.take_succ_eq_append_getElem hi, List.foldl_append, hfold]; rfl
              exact (again (i + 1, acc ++ entB ahead l[i], l[i].key, _, wm) ⟨by show i + 1 ≤ _; omega, hst, by show (acc ++ entB ahead l[i]).length ≤ 65536; omega, k2, OwnO.mono hGm (fun _ h _ => h) (fun j h _ => by show w.heap.size ≤ j; rcases h with h | h <;> omega), Xm⟩ (by show _ - (i + 1) < _ - i; omega)).of ⟨rfl, rfl, rfl, rfl, rfl, trivial⟩
          · intro meet
            refine .cond rfl (fun c74 => ?_) (fun c74 => ?_)
            · refine .keep [(5, _), (8, _), (21, _), (22, _), (23, _)] ⟨rfl, rfl, rfl, rfl, rfl, trivial⟩ (.region ?_)
              refine .p rfl rfl (.mv rfl) ?_
              refine .v rfl rfl (.lits rfl rfl (fun _ => by kernel_rfl)) ?_
              rintro _ w76 ⟨rfl, N76⟩
              have z76 := N76.size
              refine .v rfl rfl (.appendLo (t := tByte) (eb := 1) rfl (OwnO.ext0 G72 N76.ext) (fun k hk => by have hk : w76.heap.size ≤ k := hk; exact .inr (by omega)) rfl (one_holds (c := 1) N76) rfl rfl rfl rfl rfl rfl rfl (by simp; omega) (by simp [Lim]; omega) (fun _ h _ => h.elim)) ?_
              rintro r77 w77 ⟨G77, Y77⟩
              have z77 : w76.heap.size ≤ w77.heap.size := Y77.size
              refine .p rfl rfl (.as rfl) ?_
              refine .nil ?_
              have hent : acc ++ entB ahead l[i] = acc ++ smallF k ++ textF (l[i].key.drop k) ++ smallF l[i].seq.toNat ++ [1] := by unfold entB goneB; rw [if_pos c74, hpk]; simp only [List.append_assoc]
              exact (meet (r77, w77) ⟨by show OwnO tByte _ _ w77 r77 (acc ++ entB ahead l[i]) _; rw [hent]; exact G77, ((B8.ext Y72 (fun h => by rcases h with h | h <;> omega)).ext N76.ext (fun x => x)).ext Y77 (fun h => by rcases h with h | h <;> omega), ((((Zx.then Y61 (hBw _)).trans X65).then Y66 (hBw _) |>.trans X71).then Y72 (hBw _) |>.trans N76.ext).then Y77 (hBw _)⟩).of ⟨rfl, rfl, rfl, rfl, rfl, trivial⟩
            · refine .keep [(5, _), (8, _), (21, _), (22, _), (23, _)] ⟨rfl, rfl, rfl, rfl, rfl, trivial⟩ (.mix ((fun k => (w.heap.size ≤ k ∧ k < wi.heap.size) ∨ w60.heap.size ≤ k)) [1, 2, 5, 6] (by kernel_rfl) (by kernel_rfl) (by kernel_rfl) ?_)
              refine .p rfl rfl rfl (fun wx hx => .mv rfl) ?_
              refine .v rfl rfl rfl (.lits rfl rfl (fun _ => by kernel_rfl)) (by rintro _ _ ⟨_, hN⟩; exact hN.ext0) ?_
              rintro _ w79 ⟨rfl, N79⟩
              have z79 := N79.size
              refine .v rfl rfl rfl (.appendLo (t := tByte) (eb := 1) rfl (OwnO.ext0 G72 N79.ext) (fun k hk => by have hk : w79.heap.size ≤ k := hk; exact .inr (by omega)) rfl (one_holds (c := 0) N79) rfl rfl rfl rfl rfl rfl rfl (by simp; omega) (by simp [Lim]; omega) (fun _ h _ => h.elim)) (by rintro _ _ ⟨_, hx⟩; exact (N79.ext0).trans hx) ?_
              rintro r80 w80 ⟨G80, Y80⟩
              have z80 : w79.heap.size ≤ w80.heap.size := Y80.size
              refine .p rfl rfl rfl (fun wx hx => .fieldAddr rfl rfl rfl rfl) ?_
              refine .p rfl rfl rfl (fun wx hx => .load rfl rfl rfl (((B8.ext Y72 (fun h => by rcases h with h | h <;> omega)).ext hx (fun h => by rcases h with h | h <;> omega)).cell 1)) ?_
              refine .call (first := []) (captured := []) rfl rfl rfl rfl rfl (Text_fn (l := l[i].value) (by simp only [Lim]; omega) (by simp only [Lim]; omega)) (by rintro _ _ ⟨_, hx⟩; exact (N79.ext0.trans Y80).trans (hx.mono (fun _ _ h => h.elim))) ?_
              rintro r83 w83 ⟨G83, X83⟩
              have z83 : w80.heap.size ≤ w83.heap.size := X83.size
              refine .v rfl rfl rfl (.appendLo (t := tByte) (eb := 1) rfl (OwnO.ext0 G80 X83) (fun k hk => by have hk : w83.heap.size ≤ k := hk; exact .inr (by omega)) rfl (Gr.holds (Gr.rep G83)) rfl rfl rfl rfl rfl rfl rfl (by simp; omega) (by simp [Lim]; omega) (fun _ h _ => h.elim)) (by rintro _ _ ⟨_, hx⟩; exact ((N79.ext0.trans Y80).trans (X83.mono (fun _ _ h => h.elim))).trans hx) ?_
              rintro r84 w84 ⟨G84, Y84⟩
              have z84 : w83.heap.size ≤ w84.heap.size := Y84.size
              refine .p rfl rfl rfl (fun wx hx => .as rfl) ?_
              refine .nil ?_
              have hent : acc ++ entB ahead l[i] = acc ++ smallF k ++ textF (l[i].key.drop k) ++ smallF l[i].seq.toNat ++ [0] ++ textF l[i].value := by unfold entB goneB; rw [if_neg (by simp [c74]), hpk]; simp [List.append_assoc]
              exact (meet (r84, w84) ⟨by show OwnO tByte _ _ w84 r84 (acc ++ entB ahead l[i]) _; rw [hent]; exact G84, ((((B8.ext Y72 (fun h => by rcases h with h | h <;> omega)).ext N79.ext (fun x => x)).ext Y80 (fun h => by rcases h with h | h <;> omega)).ext X83 (fun x => x)).ext Y84 (fun h => by rcases h with h | h <;> omega), ((((((Zx.then Y61 (hBw _)).trans X65).then Y66 (hBw _) |>.trans X71).then Y72 (hBw _) |>.trans N79.ext).then Y80 (hBw _)).trans X83).then Y84 (hBw _)⟩).of ⟨rfl, rfl, rfl, rfl, rfl, trivial⟩
      · intro meet
        refine .draws (by kernel_rfl) (by kernel_rfl) ?_
        refine .p rfl rfl (.mv rfl) ?_
        refine .p rfl rfl (.mv rfl) ?_
        refine .p rfl rfl (.lenS rfl rfl) ?_
        refine .p rfl rfl (.fieldAddr rfl rfl rfl rfl) ?_
        refine .p rfl rfl (.load rfl rfl rfl (B8.cell 0)) ?_
        refine .p rfl rfl (.lenS rfl rfl) ?_
        refine .p rfl rfl (.min2 rfl rfl) ?_
        refine .p rfl rfl (.lt rfl rfl) ?_
        refine .p rfl rfl (.mv rfl) ?_
        refine .caseD 35 rfl (fun c35 => ?_) (fun c35 => ?_)
        · refine .p rfl rfl (.mv rfl) ?_
          refine .p rfl rfl (.mv rfl) ?_
          refine .p rfl rfl (.idxS rfl rfl rfl (by omega) (show ahead[(k : Int).toNat]? = some (ahead[k]'(by omega)) by rw [Int.toNat_natCast]; exact List.getElem?_eq_getElem _)) ?_
          refine .p rfl rfl (.fieldAddr rfl rfl rfl rfl) ?_
          refine .p rfl rfl (.load rfl rfl rfl (B8.cell 0)) ?_
          refine .p rfl rfl (.mv rfl) ?_
          refine .p rfl rfl (.idxS rfl rfl rfl (by omega) (show l[i].key[(k : Int).toNat]? = some (l[i].key[k]'(by omega)) by rw [Int.toNat_natCast]; exact List.getElem?_eq_getElem _)) ?_
          refine .p rfl rfl (.eq rfl rfl) ?_
          refine .p rfl rfl (.pickT rfl rfl) ?_
          refine .nil ?_
          exact (meet _ ⟨fun hf => ⟨by omega, by omega, by have hf := (of_decide_eq_true hf); have hk1 : k < ahead.length := (by omega); have hk2 : k < l[i].key.length := (by omega); have := preN_step hk1 hk2; rw [if_pos (UInt8.toNat_inj.1 (by omega))] at this; omega⟩, fun hf => by have hf := of_decide_eq_false hf; have hk1 : k < ahead.length := (by omega); have hk2 : k < l[i].key.length := (by omega); have := preN_step hk1 hk2; rw [if_neg (fun e => hf (by rw [e]))] at this; omega⟩).of ⟨rfl, rfl, rfl, rfl, rfl, rfl, rfl, rfl, trivial⟩
        · refine .skip rfl rfl ?_
          refine .skip rfl rfl ?_
          refine .skip rfl rfl ?_
          refine .skip rfl rfl ?_
          refine .skip rfl rfl ?_
          refine .skip rfl rfl ?_
          refine .skip rfl rfl ?_
          refine .skip rfl rfl ?_
          refine .p rfl rfl (.pickF rfl rfl) ?_
          refine .nil ?_
          exact (meet false ⟨fun hf => (by cases hf), fun _ => by have := preN_end (a := ahead) (b := l[i].key) (k := k) (by omega); omega⟩).of ⟨rfl, rfl, rfl, rfl, rfl, rfl, rfl, rfl, trivial⟩
    · obtain rfl : i = l.length := by omega
      rw [List.take_length] at hfold
      have hbody : bodyB l = acc := by unfold bodyB; rw [hfold]
      refine .exit rfl (.code (.seq (.seq (.keep [(5, _)] ⟨rfl, trivial⟩ (.region ?_)))))
      refine .p rfl rfl (.mv rfl) ?_
      refine .p rfl rfl (.mv rfl) ?_
      refine .call (first := []) (captured := []) rfl rfl rfl rfl (psum_fn (Gr.rep hG)) ?_
      rintro r93 w93 ⟨R93, X93⟩
      have z93 : wi.heap.size ≤ w93.heap.size := X93.size
      have hs4 := sum4_length acc
      refine .v rfl rfl (.appendLo (t := tByte) (eb := 1) rfl (OwnO.ext0 hG X93) (fun k hk => by have hk : w93.heap.size ≤ k := hk; show w.heap.size ≤ k; omega) rfl (Gr.holds R93) rfl rfl rfl rfl rfl rfl rfl (by simp; omega) (by simp [Lim]; omega) (fun _ h _ => h.elim)) ?_
      rintro r94 w94 ⟨G94, Y94⟩
      obtain ⟨a94, c94, rfl, hc94⟩ := OwnO.val G94
      refine .p rfl rfl (.as rfl) ?_
      refine .nil (.code (.seq (.keep [(5, _)] ⟨rfl, trivial⟩ (.region ?_))))
      refine .p rfl rfl (.mv rfl) ?_
      refine .p rfl rfl (.len rfl rfl) ?_
      refine .p rfl rfl (.gt rfl rfl) ?_
      refine .nil (.code (.keep [(97, _), (5, _)] ⟨rfl, rfl, trivial⟩ ?_))
      refine .condD rfl (fun c97 => ?_) (fun c97 => ?_)
      · refine .seq (.keep [] trivial (.region ?_))
        refine .p rfl rfl (.as rfl) ?_
        refine .p rfl rfl (.as rfl) ?_
        refine .nil (.code ?_)
        refine .ret _ rfl ?_
        have e : makeE l = ([], 7) := by unfold makeE; rw [if_neg c15, if_pos (by unfold pageB; rw [hbody]; omega)]
        rw [e]
        exact ⟨_, rfl, OwnO.nil, (hX.trans X93).then Y94 (fun k hk _ => hk)⟩
      · refine .skip (.code (.seq (.keep [(5, _)] ⟨rfl, trivial⟩ (.region ?_))))
        refine .p rfl rfl (.mv rfl) ?_
        refine .p rfl rfl (.as rfl) ?_
        refine .p rfl rfl (.as rfl) ?_
        refine .nil (.code ?_)
        refine .ret _ rfl ?_
        have e : makeE l = (acc ++ sum4 acc, 0) := by unfold makeE; rw [if_neg c15, if_neg (by unfold pageB; rw [hbody]; omega)]; unfold pageB; rw [hbody]
        rw [e]
        exact ⟨_, rfl, G94, (hX.trans X93).then Y94 (fun k hk _ => hk)⟩
end Go.Proofs.Ythkgadhamecnlaa
