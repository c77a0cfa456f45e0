/- How a law's arguments are opened: integers, bools and strings, flat structs and arrays of them, slices of such. No condition. -/
import Derived.Test.YtoklhhcjcecbbaaProg
import Derived.Deep.Slices
import Derived.OpenShut
import Derived.ChangeSame
import Derived.SizedLaws
import Derived.KernelRfl
import Derived.WideShapes
namespace Go.Proofs.Ytoklhhcjcecbbaa.M
open Go.ChangeShapes Go.WideShapes Go.RowKit Go.Deep

inductive FK where
  | int (k : IntKind)
  | bool
  | str
def FK.ok : FK → Value → Prop
  | .int k, v => ∃ n, v = .int k n ∧ (Lit.int k n).wf = true
  | .bool, v => ∃ b, v = .bool b
  | .str, v => ∃ s, v = .string s ∧ s.size ≤ maxLen
def Fits : List FK → List Value → Prop
  | [], [] => True
  | k :: ks, v :: vs => k.ok v ∧ Fits ks vs
  | _, _ => False
theorem Fits.length : ∀ {ks : List FK} {cs : List Value}, Fits ks cs → cs.length = ks.length
  | [], [], _ => rfl
  | _ :: _, _ :: _, h => by simp [Fits.length h.2]
theorem Fits.append : ∀ {ks ks' : List FK} {cs cs' : List Value}, Fits ks cs → Fits ks' cs' → Fits (ks ++ ks') (cs ++ cs')
  | [], _, [], _, _, h' => h'
  | _ :: _, _, _ :: _, _, h, h' => ⟨h.1, Fits.append h.2 h'⟩

theorem Fits.int {k : IntKind} {ks : List FK} {cs : List Value} (h : Fits (.int k :: ks) cs) : ∃ n cs', cs = .int k n :: cs' ∧ (Lit.int k n).wf = true ∧ Fits ks cs' := by
  cases cs with
  | nil => exact absurd h (by simp [Fits])
  | cons v vs =>
    obtain ⟨⟨n, rfl, hw⟩, hr⟩ := h
    exact ⟨n, vs, rfl, hw, hr⟩
theorem Fits.bool {ks : List FK} {cs : List Value} (h : Fits (.bool :: ks) cs) : ∃ b cs', cs = .bool b :: cs' ∧ Fits ks cs' := by
  cases cs with
  | nil => exact absurd h (by simp [Fits])
  | cons v vs =>
    obtain ⟨⟨n, rfl⟩, hr⟩ := h
    exact ⟨n, vs, rfl, hr⟩
theorem Fits.nil {cs : List Value} (h : Fits [] cs) : cs = [] := by
  cases cs with
  | nil => rfl
  | cons v vs => exact absurd h (by simp [Fits])

def flatF (P : Program) (rec : TypeId → Option (List FK)) : Nat → List Field → Option (List FK)
  | _, [] => some []
  | o, f :: fs =>
    if f.offset = o then
      match rec f.type with
      | some ks => if P.cellsOf f.type = ks.length then (flatF P rec (o + ks.length) fs).map (ks ++ ·) else none
      | none => none
    else none
def flat (P : Program) : Nat → TypeId → Option (List FK)
  | 0, _ => none
  | m + 1, t =>
    match P.underlying t with
    | some .bool => some [.bool]
    | some (.int k) => some [.int k]
    | some .string => some [.str]
    | some (.struct fs) => (flatF P (flat P m) 0 fs.toList).bind fun ks => if P.cellsOf t = ks.length then some ks else none
    | some (.array n e) =>
      match flat P m e with
      | some ks => if P.cellsOf e = ks.length ∧ P.cellsOf t = n * ks.length then some (List.replicate n ks).flatten else none
      | none => none
    | _ => none
def isAgg (P : Program) (t : TypeId) : Bool := match P.underlying t with | some (.struct _) | some (.array _ _) => true | _ => false

section
variable {H : Type} {enc : TypeId × Value → H} {P : Program} {w : World} {base : Nat} {spare : Nat → Bool} {held : Bool}

theorem flatF_fits {n : Nat} {rec : TypeId → Option (List FK)} (hrec : ∀ t ks cs x, rec t = some ks → DataW.trod enc P w base spare held n t cs = some x → Fits ks cs) (cs : List Value) :
    ∀ (fs : List Field) (o : Nat) (ks : List FK), flatF P rec o fs = some ks → (∀ (j : Nat) (f : Field), fs[j]? = some f → ∃ x, DataW.trod enc P w base spare held n f.type ((cs.drop f.offset).take (P.cellsOf f.type)) = some x) → cs.length = o + ks.length → Fits ks (cs.drop o)
  | [], o, ks, h, _, hl => by
    simp only [flatF, Option.some.injEq] at h
    subst h
    rw [List.drop_eq_nil_of_le (by simp at hl; omega)]
    trivial
  | f :: fs, o, ks, h, hf, hl => by
    simp only [flatF] at h
    split at h
    · rename_i ho
      split at h
      · rename_i k1 hk1
        split at h
        · rename_i hc
          obtain ⟨k2, h2, rfl⟩ := Option.map_eq_some_iff.1 h
          obtain ⟨x, hx⟩ := hf 0 f rfl
          rw [ho] at hx
          have F1 := hrec _ _ _ _ hk1 hx
          have F2 := flatF_fits hrec cs fs (o + k1.length) k2 h2 (fun j g hg => hf (j + 1) g hg) (by simp at hl; omega)
          have e : cs.drop o = (cs.drop o).take (P.cellsOf f.type) ++ cs.drop (o + k1.length) := by
            rw [hc, ← List.drop_drop, List.take_append_drop]
          rw [e]
          exact F1.append F2
        · simp at h
      · simp at h
    · simp at h

theorem arr_fits {e : TypeId} {c : Nat} {ks : List FK} {n : Nat} (hc : c = ks.length) (hrec : ∀ cs x, DataW.trod enc P w base spare held n e cs = some x → Fits ks cs) :
    ∀ (m : Nat) (cs : List Value), cs.length = m * c → (∀ i, i < m → ∃ x, DataW.trod enc P w base spare held n e ((cs.drop (i * c)).take c) = some x) → Fits (List.replicate m ks).flatten cs
  | 0, cs, hl, _ => by
    have : cs = [] := List.length_eq_zero_iff.1 (by simpa using hl)
    subst this
    trivial
  | m + 1, cs, hl, h => by
    obtain ⟨x, hx⟩ := h 0 (by omega)
    simp only [Nat.zero_mul, List.drop_zero] at hx
    have F1 := hrec _ _ hx
    have F2 := arr_fits hc hrec m (cs.drop c) (by simp [hl, Nat.succ_mul]) (fun i hi => by
      obtain ⟨y, hy⟩ := h (i + 1) (by omega)
      refine ⟨y, ?_⟩
      rw [List.drop_drop]
      have : c + i * c = (i + 1) * c := by rw [Nat.succ_mul]; omega
      rw [this]
      exact hy)
    rw [List.replicate_succ, List.flatten_cons]
    have e' : cs = cs.take c ++ cs.drop c := (List.take_append_drop c cs).symm
    rw [e']
    exact F1.append F2

theorem trod_fits : ∀ (m : Nat) (fuel : Nat) (t : TypeId) (cs : List Value) (x : DataW H × List MemPlace) (ks : List FK), flat P m t = some ks → DataW.trod enc P w base spare held fuel t cs = some x → Fits ks cs
  | 0, _, _, _, _, _, h, _ => by simp [flat] at h
  | m + 1, fuel, t, cs, x, ks, h, hx => by
    simp only [flat] at h
    split at h
    · rename_i hu
      simp only [Option.some.injEq] at h; subst h
      cases fuel with
      | zero => simp [DataW.trod] at hx
      | succ fuel =>
        unfold DataW.trod at hx
        rw [hu] at hx
        split at hx <;> simp_all [Fits, FK.ok]
    · rename_i k hu
      simp only [Option.some.injEq] at h; subst h
      cases fuel with
      | zero => simp [DataW.trod] at hx
      | succ fuel =>
        unfold DataW.trod at hx
        rw [hu] at hx
        split at hx <;> simp_all [Fits, FK.ok]
    · rename_i hu
      simp only [Option.some.injEq] at h; subst h
      cases fuel with
      | zero => simp [DataW.trod] at hx
      | succ fuel =>
        unfold DataW.trod at hx
        rw [hu] at hx
        split at hx <;> simp_all [Fits, FK.ok]
    · rename_i fs hu
      obtain ⟨k1, h1, h2⟩ := Option.bind_eq_some_iff.1 h
      split at h2
      · rename_i hc
        simp only [Option.some.injEq] at h2
        subst h2
        obtain ⟨xs, n, hn, _, hl, hxl, hf⟩ := DataW.trod_struct hu hx
        have := flatF_fits (fun t ks cs x a b => trod_fits m n t cs x ks a b) cs fs.toList 0 k1 h1 (fun j f hj => by
          have hj' : fs[j]? = some f := by simpa using hj
          have hlt : j < xs.length := by
            have := (Array.getElem?_eq_some_iff.1 hj').1
            simp_all
          exact ⟨xs[j], by rw [hf j f hj']; simp [hlt]⟩) (by omega)
        simpa using this
      · simp at h2
    · rename_i n e hu
      split at h
      · rename_i k1 h1
        split at h
        · rename_i hc
          simp only [Option.some.injEq] at h
          subst h
          obtain ⟨xs, q, _, _, hl, hxl, hf⟩ := DataW.trod_array hu hx
          have ce := hc.1
          refine arr_fits ce (fun cs x b => trod_fits m q e cs x k1 h1 b) n cs (by rw [hl, hc.2, ce]) (fun i hi => ?_)
          exact ⟨xs[i]'(by omega), by rw [hf i hi]; simp [hxl, hi]⟩
        · simp at h
      · simp at h
    · simp at h

theorem open_flat {r : Reach} {b0 m : Nat} {t : TypeId} {ks : List FK} {v : Value} {d : DataW H} {p : List MemPlace} (hk : flat P m t = some ks) (hg : isAgg P t = true) (hv : Value.okWide P w r b0 t v) (h : DataW.Trod enc P w base spare held t v d p) :
    ∃ cs : List Value, v = .agg cs.toArray ∧ Fits ks cs := by
  have : ∃ cs, v = .agg cs := by
    unfold isAgg at hg
    unfold Value.okWide at hv
    split at hg
    · rename_i hu
      rw [hu] at hv
      obtain ⟨cs, h, _⟩ := hv
      exact ⟨cs, h⟩
    · rename_i hu
      rw [hu] at hv
      obtain ⟨cs, h, _⟩ := hv
      exact ⟨cs, h⟩
    · simp at hg
  obtain ⟨⟨cs⟩, rfl⟩ := this
  obtain ⟨fuel, hf⟩ := h
  exact ⟨cs, rfl, trod_fits m fuel t cs _ ks hk (by simpa [Value.cells] using hf)⟩

/-- A slice of flat elements that came in: the cells of each. -/
def RdRow (ks : List FK) (w : World) (a : Option Addr) (len cap : Nat) : Prop :=
  (a = none ∧ len = 0 ∧ cap = 0) ∨ ∃ x, a = some x ∧ len ≤ cap ∧ cap ≤ maxLen ∧ ∀ i, i < len → ∃ cs, Fits ks cs ∧ ∀ j v, cs[j]? = some v → w.cell? (x.add (i * ks.length + j)) = some v

theorem trod_rows {m : Nat} {t e : TypeId} {ks : List FK} {a : Option Addr} {len cap fuel : Nat} {y : DataW H × List MemPlace} (hu : P.underlying t = some (.slice e)) (hk : flat P m e = some ks) (hc : P.cellsOf e = ks.length)
    (hf : DataW.trod enc P w base spare held fuel t [.slice a len cap] = some y) : RdRow ks w a len cap := by
  rcases open_slice hu hf with ⟨hcs, _⟩ | ⟨x, l, c, q, n, D, Pl, hcs, hb, hl, hm, hq, _, hx⟩
  · simp at hcs
    exact .inl hcs
  · simp at hcs
    obtain ⟨rfl, rfl, rfl⟩ := hcs
    refine .inr ⟨x, rfl, hl, hm, fun i hi => ?_⟩
    obtain ⟨cs', h1, h2⟩ := hx i (by rw [hq]; split <;> omega)
    have F := trod_fits m _ _ _ _ ks hk h2
    obtain ⟨_, hlen, hcell⟩ := World.cells?_some h1
    refine ⟨cs', F, fun j v hj => ?_⟩
    have hj' : j < cs'.length := (List.getElem?_eq_some_iff.1 hj).1
    have := hcell j (by omega)
    rw [add_add, hc] at this
    rw [this, hj]
theorem open_rows {m : Nat} {t e : TypeId} {ks : List FK} {a : Option Addr} {len cap : Nat} {d : DataW H} {p : List MemPlace} (hu : P.underlying t = some (.slice e)) (hk : flat P m e = some ks) (hc : P.cellsOf e = ks.length)
    (h : DataW.Trod enc P w base spare held t (.slice a len cap) d p) : RdRow ks w a len cap := by
  obtain ⟨fuel, hf⟩ := h
  exact trod_rows hu hk hc (by simpa [Value.cells] using hf)

theorem sized_rows {t e : TypeId} {a : Option Addr} {len cap : Nat} {d : DataW H} {ps : List MemPlace} {ts : List TypeId} {ds : List (DataW H)} {j : Nat}
    (hsz : (DataW.weightsEach P ts ds).all (· ≤ reachBytes) = true) (ht : ts[j]? = some t) (hd : ds[j]? = some d) (hu : P.underlying t = some (.slice e)) {B : Nat} (hB : P.bytesOf e = B)
    (h : DataW.Trod enc P w base spare held t (.slice a len cap) d ps) : len * B ≤ 140737488351232 := by
  obtain ⟨fuel, hf⟩ := h
  rcases open_slice hu (by simpa [Value.cells] using hf) with ⟨hcs, _⟩ | ⟨x, l, c, q, n, D, Pl, hcs, hb, hl, hm, hq, hx, _⟩
  · simp at hcs
    obtain ⟨rfl, rfl, rfl⟩ := hcs
    simp
  · simp at hcs
    obtain ⟨rfl, rfl, rfl⟩ := hcs
    obtain ⟨hx, _⟩ := Prod.mk.inj hx
    subst hx
    have z := sized_slice hsz ht hd hu
    rw [hB] at z
    simp only [List.length_map, List.length_range] at z
    exact Nat.le_trans (Nat.mul_le_mul_right _ (by omega)) z
end
end Go.Proofs.Ytoklhhcjcecbbaa.M
