
/-
  From the readings of a row to the kinds of data, and back: a law that returns true and leaves its arguments alone.
-/
import Derived.Test.YthkgadhamecnlaaEff
import Derived.ProofKit
import Derived.OpenShut
import Derived.SizedLaws
import Derived.Deep.CondSized
set_option linter.unusedVariables false
set_option linter.unusedSimpArgs false
namespace Go.Proofs.Ythkgadhamecnlaa
open Go Go.ChangeShapes Go.WideShapes Go.ChangeAt Go.RowKit

def isAggV : Value → Bool
  | .agg _ => true
  | _ => false
theorem val_ext {u v : Value} (h : u.cells.toList = v.cells.toList) (ha : isAggV u = isAggV v) : u = v := by
  have h' : u.cells = v.cells := Array.ext' h
  cases u <;> cases v <;> simp_all [Value.cells, isAggV]
/-- whatever reads as data of type T reads as t -/
def Opens (P : Program) (T : TypeId) {α : Type} (t : Ty α) : Prop :=
  ∀ (H : Type) (enc : TypeId × Value → H) (w : World) (fuel : Nat) (cs : List Value) (x : DataW H × List MemPlace),
    DataW.trod enc P w 0 (fun _ => true) true fuel T cs = some x → (x.1.weights P T).all (· ≤ reachBytes) = true → ∃ u y, u.cells.toList = cs ∧ t.rep All w u y ∧ isAggV u = (match P.underlying T with | some d => aggD d | none => false)
section
variable {P : Program} {T E : TypeId}
theorem opens_int (hT : P.underlying T = some (.int .i64)) : Opens P T tInt := by
  intro H enc w fuel cs x h _
  obtain ⟨n, rfl, rfl, hw⟩ := DataW.trod_int hT h
  refine ⟨i64 n, n, rfl, ⟨rfl, ?_⟩, by rw [hT]; rfl⟩
  simpa [Lit.wf, IntKind.min, IntKind.max, IntKind.signed, IntKind.bits] using hw
theorem opens_byte (hT : P.underlying T = some (.int .u8)) : Opens P T tByte := by
  intro H enc w fuel cs x h _
  obtain ⟨n, rfl, rfl, hw⟩ := DataW.trod_int hT h
  have hb : 0 ≤ n ∧ n ≤ 255 := by simpa [Lit.wf, IntKind.min, IntKind.max, IntKind.signed, IntKind.bits] using hw
  refine ⟨.int .u8 n, UInt8.ofNat n.toNat, rfl, ?_, by rw [hT]; rfl⟩
  show Value.int .u8 n = u8 _
  simp only [u8]
  congr 1
  simp
  omega
theorem opens_u32 (hT : P.underlying T = some (.int .u32)) : Opens P T tU32 := by
  intro H enc w fuel cs x h _
  obtain ⟨n, rfl, rfl, hw⟩ := DataW.trod_int hT h
  have hb : 0 ≤ n ∧ n ≤ 4294967295 := by simpa [Lit.wf, IntKind.min, IntKind.max, IntKind.signed, IntKind.bits] using hw
  refine ⟨.int .u32 n, UInt32.ofNat n.toNat, rfl, ?_, by rw [hT]; rfl⟩
  show Value.int .u32 n = u32 _
  simp only [u32]
  congr 1
  simp
  omega
theorem opens_bool (hT : P.underlying T = some .bool) : Opens P T tBool := by
  intro H enc w fuel cs x h _
  obtain ⟨b, rfl, rfl⟩ := DataW.trod_bool hT h
  exact ⟨.bool b, b, rfl, rfl, by rw [hT]; rfl⟩
theorem opens_str (hT : P.underlying T = some .string) : Opens P T tStr := by
  intro H enc w fuel cs x h hwt
  obtain ⟨s, rfl, rfl, hs⟩ := DataW.trod_string hT h
  refine ⟨.string s, s.data.toList, rfl, ⟨by rw [str, ← bs_of], ?_⟩, by rw [hT]; rfl⟩
  have h1 : s.data.toList.length ≤ reachBytes := (List.all_eq_true.1 hwt _ (List.mem_singleton.2 rfl) |> of_decide_eq_true)
  simp only [reachBytes] at h1
  show s.data.toList.length < Lim
  simp only [Lim]
  omega
theorem cells?_spec {w : World} {base : Nat} {a : Addr} {n : Nat} {cs : List Value} (h : w.cells? base a n = some cs) : cs.length = n ∧ ∀ j v, cs[j]? = some v → w.cell? (a.add j) = some v := by
  unfold World.cells? at h
  split at h
  · have key : ∀ (l : List Nat) (cs : List Value), l.mapM (fun i => w.cell? (a.add i)) = some cs → cs.length = l.length ∧ ∀ (j : Nat) (v : Value), cs[j]? = some v → ∃ i, l[j]? = some i ∧ w.cell? (a.add i) = some v := by
      intro l
      induction l with
      | nil => intro cs h; simp at h; subst h; simp
      | cons i l ih =>
        intro cs h
        simp only [List.mapM_cons, Option.pure_def, Option.bind_eq_bind] at h
        cases hx : w.cell? (a.add i) with
        | none => simp [hx] at h
        | some u =>
          cases hr : l.mapM (fun i => w.cell? (a.add i)) with
          | none => simp [hx, hr] at h
          | some us =>
            simp [hx, hr] at h
            subst h
            obtain ⟨h1, h2⟩ := ih us hr
            refine ⟨by simp [h1], fun j v hj => ?_⟩
            cases j with
            | zero => simp at hj; subst hj; exact ⟨i, rfl, hx⟩
            | succ j => simp at hj; obtain ⟨q, hq1, hq2⟩ := h2 j v hj; exact ⟨q, by simpa using hq1, hq2⟩
    obtain ⟨h1, h2⟩ := key _ _ h
    refine ⟨by simpa using h1, fun j v hj => ?_⟩
    obtain ⟨i, hi, hv⟩ := h2 j v hj
    have : i = j := by
      have hlt : j < n := by
        have := (List.getElem?_eq_some_iff.1 hj).1
        simp at h1
        omega
      simp [hlt] at hi
      exact hi.symm
    subst this
    exact hv
  · cases h
theorem weightsAll_mem {H : Type} {e : TypeId} : ∀ {l : List (DataW H)} {d : DataW H}, d ∈ l → (DataW.weightsAll P e l).all (· ≤ reachBytes) = true → (d.weights P e).all (· ≤ reachBytes) = true
  | x :: l, d, hd, h => by
    simp only [DataW.weightsAll, List.all_append, Bool.and_eq_true] at h
    rcases List.mem_cons.1 hd with rfl | hd
    · exact h.1
    · exact weightsAll_mem hd h.2
theorem opens_slice {α : Type} {t : Ty α} (hT : P.underlying T = some (.slice E)) (ho : Opens P E t) (hc : P.cellsOf E = t.size) (hpos : 0 < t.size) (hby : 0 < P.bytesOf E) : Opens P T (Sl t) := by
  intro H enc w fuel cs x h hwt
  have hagg : (match P.underlying T with | some d => aggD d | none => false) = false := by rw [hT]; rfl
  rw [hagg]
  rcases DataW.trod_slice hT h with ⟨rfl, rfl⟩ | ⟨a, len, cap, elems, rest, n, _, rfl, rfl, hb, hl, hm, hlen, hel, hsp, hns⟩
  · exact ⟨.slice none 0 0, [], rfl, Sl.nil, rfl⟩
  · obtain ⟨hrl, hre⟩ := hsp rfl
    simp only [DataW.weights, hT, List.all_cons, List.all_append, Bool.and_eq_true, decide_eq_true_eq, List.length_map] at hwt
    obtain ⟨hw0, hw1, hw2⟩ := hwt
    have hlim : len < Lim := by
      have h1 : (elems.length + rest.length) * 1 ≤ (elems.length + rest.length) * P.bytesOf E := Nat.mul_le_mul_left _ hby
      simp only [reachBytes] at hw0
      simp only [Lim]
      omega
    -- the place
    have hplace : 0 < cap → a.spot = none ∧ a.block < w.heap.size := by
      intro hcap
      have hex : ∃ cs', w.cells? 0 (a.add 0) (P.cellsOf E) = some cs' := by
        have key : ∀ i y, (w.cells? 0 (a.add (i * P.cellsOf E)) (P.cellsOf E)).bind (DataW.trod enc P w 0 (fun _ => true) true n E) = some y → i = 0 → ∃ cs', w.cells? 0 (a.add 0) (P.cellsOf E) = some cs' := by
          rintro i y h1 rfl
          rw [Nat.zero_mul] at h1
          cases hcc : w.cells? 0 (a.add 0) (P.cellsOf E) with
          | none => rw [hcc] at h1; cases h1
          | some cs' => exact ⟨cs', rfl⟩
        by_cases h0 : 0 < len
        · exact key 0 _ ((hel 0 h0).trans (List.getElem?_eq_getElem (by omega))) rfl
        · exact key (len + 0) _ ((hre 0 (by omega)).trans (List.getElem?_eq_getElem (by omega))) (by omega)
      obtain ⟨cs', hcs'⟩ := hex
      obtain ⟨h1, h2⟩ := cells?_spec hcs'
      have h3 := h2 0 _ (List.getElem?_eq_getElem (by omega))
      have h4 : (a.add 0).add 0 = a := by simp [Addr.add]
      rw [h4] at h3
      refine ⟨?_, World.block_lt_of_cell? w a h3⟩
      unfold World.cell? at h3
      split at h3
      · cases hs : a.spot with
        | none => rfl
        | some q => simp [hs] at h3
      · cases h3
    by_cases hcap : 0 < cap
    · obtain ⟨hspot, hblk⟩ := hplace hcap
      obtain ⟨b, o, spot⟩ := a
      simp only at hspot
      subst hspot
      -- the elements
      have hone : ∀ i, i < len → ∃ u y, isAggV u = (match P.underlying E with | some d => aggD d | none => false) ∧ t.rep All w u y ∧ Cells w b (o + i * t.size) u.cells.toList := by
        intro i hi
        have h1 := hel i hi
        have hi' : i < elems.length := by omega
        rw [List.getElem?_eq_getElem hi'] at h1
        cases hcc : w.cells? 0 ((⟨b, o, none⟩ : Addr).add (i * P.cellsOf E)) (P.cellsOf E) with
        | none => simp [hcc] at h1
        | some cs' =>
          simp only [hcc, Option.bind_some] at h1
          obtain ⟨u, y, hu, hr, ha⟩ := ho H enc w n cs' _ h1 (weightsAll_mem (List.mem_map_of_mem (List.getElem_mem hi')) hw1)
          refine ⟨u, y, ha, hr, ?_⟩
          obtain ⟨h2, h3⟩ := cells?_spec hcc
          intro j v hj
          rw [hu] at hj
          have := h3 j v hj
          rwa [add_none, add_none, hc] at this
      have hall : ∀ m, m ≤ len → ∃ us xs, Each (t.rep All w) us xs ∧ xs.length = m ∧ Cells w b o (flat us) := by
        intro m
        induction m with
        | zero => intro _; exact ⟨[], [], .nil, rfl, Cells.nil _ _ _⟩
        | succ m ih =>
          intro hm'
          obtain ⟨us, xs, h1, h2, h3⟩ := ih (by omega)
          obtain ⟨u, y, _, hr, hcell⟩ := hone m (by omega)
          refine ⟨us ++ [u], xs ++ [y], h1.append (.cons hr .nil), by simp [h2], ?_⟩
          rw [flat_append]
          refine h3.append ?_
          have hsz := h1.mem (n := t.size) (fun u x h => t.sz h)
          rw [flat_length hsz, h1.length, h2, flat_cons, flat_nil, List.append_nil]
          exact hcell
      obtain ⟨us, xs, h1, h2, h3⟩ := hall len (Nat.le_refl _)
      exact ⟨.slice (some ⟨b, o, none⟩) len cap, xs, rfl, Sl.mk h1 h3 trivial hblk (by omega) (by omega) h2.symm, rfl⟩
    · have h0 : len = 0 := by omega
      have h1 : cap = 0 := by omega
      subst h0 h1
      exact ⟨.slice (some a) 0 0, [], rfl, ⟨by show 0 < Lim; decide, some a, 0, rfl, Nat.le_refl _, .inl ⟨rfl, rfl⟩⟩, rfl⟩
theorem okWide_isAgg {w : World} {r : Reach} {base : Nat} {v : Value} {d : TypeDesc} (hT : P.underlying T = some d) (h : Value.okWide P w r base T v) (hd : (match d with | .int _ | .bool | .string | .slice _ | .struct _ => true | _ => false) = true) : isAggV v = aggD d := by
  cases d <;> simp at hd
  · obtain ⟨b, rfl⟩ := okWide_bool hT h; rfl
  · obtain ⟨n, rfl⟩ := okWide_int hT h; rfl
  · obtain ⟨s, rfl⟩ := okWide_string hT h; rfl
  · obtain ⟨a, l, c, rfl⟩ := okWide_slice hT h; rfl
  · obtain ⟨cs, rfl, _⟩ := okWide_struct hT h; rfl
/-- an argument -/
theorem arg_open {α : Type} {t : Ty α} {H : Type} {enc : TypeId × Value → H} {W : World} {base : Nat} {v : Value} {d : DataW H} {p : List MemPlace} {D : TypeDesc} (ho : Opens P T t) (hT : P.underlying T = some D) (hd : (match D with | .int _ | .bool | .string | .slice _ | .struct _ => true | _ => false) = true)
    (hval : Value.okWide P W .any base T v) (h : DataW.Trod enc P W 0 (fun _ => true) true T v d p) (hw : (d.weights P T).all (· ≤ reachBytes) = true) : ∃ x, t.rep All W v x := by
  obtain ⟨fuel, hf⟩ := h
  obtain ⟨u, y, h1, h2, h3⟩ := ho H enc W fuel _ _ hf hw
  rw [hT] at h3
  have : u = v := val_ext h1 (h3.trans (okWide_isAgg hT hval hd).symm)
  subst this
  exact ⟨y, h2⟩
end

theorem weights_at {H : Type} {P : Program} {ts : List TypeId} {ds : List (DataW H)} (h : (DataW.weightsEach P ts ds).all (· ≤ reachBytes) = true) {j : Nat} {t : TypeId} {d : DataW H} (ht : ts[j]? = some t) (hd : ds[j]? = some d) : (d.weights P t).all (· ≤ reachBytes) = true :=
  List.all_eq_true.2 (fun n hn => List.all_eq_true.1 h _ (DataW.weights_mem_each ht hd n hn))
theorem trodAll_stays {H : Type} {enc : TypeId × Value → H} {P : Program} (hl : laidOutB P = true) {W W' : World} (hb : Below W.heap.size W W') (sp : Nat → Bool) : ∀ (ts : List TypeId) (vs : List Value) (ds : List (DataW H)) (ps : List MemPlace), (∀ t ∈ ts, P.readableRec t = true ∧ t < P.types.size) →
    DataW.TrodAll enc P W 0 (fun _ => true) true ts vs ds ps → (∀ x ∈ ps, x.block < W.heap.size) → (∀ x ∈ ps, sp x.block = true) → DataW.TrodAll enc P W' 0 sp true ts vs ds ps
  | [], _, _, _, _, h, _, _ => by obtain ⟨rfl, rfl, rfl⟩ := trodAll_nil h; rfl
  | t :: ts, _, _, _, hr, h, hlt, hsp => by
    obtain ⟨v, vs, d, ds, p, q, rfl, rfl, rfl, h0, h1⟩ := trodAll_cons h
    refine trodAll_cons_mk ?_ (trodAll_stays hl hb sp ts vs ds q (fun x hx => hr x (by simp [hx])) h1 (fun x hx => hlt x (by simp [hx])) (fun x hx => hsp x (by simp [hx])))
    exact WideElems.Trod_stays hl (hr t (by simp)).1 (hr t (by simp)).2 h0 (fun x hx => hb.same (hlt x (by simp [hx]))) (fun x hx => hsp x (by simp [hx]))
/-- what a law owes: it returned true; nothing that was there has turned -/
theorem post_true {H : Type} {enc : TypeId × Value → H} {P : Program} {f : Func} {s : ChangeSpec} {W W' : World} {args : Array Value} {ds gs : List (DataW H)} {before : List MemPlace} {B : TypeId}
    (hl : laidOutB P = true) (hr : ∀ t ∈ f.params.toList, P.readableRec t = true ∧ t < P.types.size) (hvs : s.vars = []) (hres : f.resultTypes = #[B]) (hB : P.underlying B = some .bool)
    (hfn : s.fn H ds = { results := [.lit (.bool true)], args := ds })
    (hW : DataW.Whole enc P f.params.toList s.vars false W args.toList ds gs before) (hb : Below W.heap.size W W') :
    s.post enc P f false true false false W args (.bool true) W' := by
  have hW' := hW
  have hlt := hW.lt
  obtain ⟨p, q, hA, hV, rfl, hz, hn⟩ := hW
  rw [hvs] at hV
  obtain ⟨rfl, rfl⟩ := trodVars_none hV
  simp only [List.append_nil] at hW' hlt hz
  have hr1 : ∀ (b : Nat) (sp : Nat → Bool) (hd : Bool), DataW.TrodAll enc P W' b sp hd f.resultTypes.toList ((Value.bool true).resultList f.resultTypes.size) (s.fn H (ds ++ [])).results [] := by
    intro b sp hd
    rw [List.append_nil, hfn, hres]
    exact trodAll_cons_mk (shut_bool hB _) trodAll_mk0
  have ha : ∀ sp : Nat → Bool, (∀ x ∈ p, sp x.block = true) → DataW.TrodAll enc P W' 0 sp true f.params.toList args.toList (s.fn H (ds ++ [])).args p := by
    intro sp hsp
    rw [List.append_nil, hfn]
    exact trodAll_stays hl hb sp _ _ _ _ hr hA hlt hsp
  have hv : ∀ sp : Nat → Bool, DataW.TrodVars enc P W' sp s.vars (s.fn H (ds ++ [])).vars [] := by
    intro sp
    rw [List.append_nil, hfn, hvs]
    rfl
  have hold : ∀ x ∈ p, (fun b => decide (b < W.heap.size)) x.block = true := fun x hx => by simpa using hlt x hx
  refine ⟨ds, [], p, [], p, [], hW', hr1 _ _ _, ha _ hold, hv _, World.keptBut_mono (fun x hx => ⟨hx, Or.inr (Or.inl hx)⟩) (hb.frame (· ∈ p)), fun _ => ?_⟩
  refine ⟨ok_one hres rfl (okWide_bool_mk hB _), _, _, ([] ++ p) ++ [], ⟨[] ++ p, [], trodAll_append (ha _ (fun _ _ => rfl)) (hr1 _ _ _), hv _, rfl, ?_, ?_⟩, ?_⟩
  · intro b off hp
    simp only [List.nil_append, List.append_nil] at hp
    have h1 := hlt _ hp
    rw [hb.frozen (p := ⟨b, off, none⟩) h1]
    exact hz b off hp
  · intro ha; cases ha
  · intro x hx _
    simpa using hx
/-- from a function's contract to what the row asks -/
theorem law_calls {H : Type} {enc : TypeId × Value → H} {P : Program} {n : FuncId} {f : Func} {s : ChangeSpec} {W : World} {args : List Value} {ds gs : List (DataW H)} {before : List MemPlace} {B : TypeId}
    (hl : laidOutB P = true) (hr : ∀ t ∈ f.params.toList, P.readableRec t = true ∧ t < P.types.size) (hvs : s.vars = []) (hres : f.resultTypes = #[B]) (hB : P.underlying B = some .bool)
    (hfn : s.fn H ds = { results := [.lit (.bool true)], args := ds })
    (hW : DataW.Whole enc P f.params.toList s.vars false W args.toArray.toList ds gs before) (hc : Fn P n args W (fun r w2 => r = .bool true ∧ Ext (fun _ => False) W w2)) :
    Calls P n args.toArray W fun e W' => ∃ v, e = .returned v ∧ s.post enc P f false true false false W args.toArray v W' := by
  refine (hc.2 W (.refl W)).mono fun e W' ⟨r, w2, hs, he, hr', hx⟩ => ?_
  subst he hr'
  exact ⟨_, rfl, post_true hl hr hvs hres hB hfn hW (hx.trans (.same hs)).below⟩
end Go.Proofs.Ythkgadhamecnlaa
