/- PwShape: the shapes of arguments: from data of a type to typed arguments. -/
import Derived.Test.YtjmmlddioeehbaaGreatDoorPwTop
import Derived.Test.YtjmmlddioeehbaaGreatDoorPwDec
namespace Go.PW
open Go
def Shp (P : Program) (t : TypeId) {A : Type} (F : A → List PV) (Q : A → Prop) : Prop := ∀ cs, Ty P t cs → ∃ a, cs = F a ∧ Q a
def Shps (P : Program) (ts : List TypeId) {A : Type} (F : A → List PV) (Q : A → Prop) : Prop :=
  ∀ css : List (List PV), css.length = ts.length → (∀ (j : Nat) (t : TypeId) (cs : List PV), ts[j]? = some t → css[j]? = some cs → Ty P t cs) → ∃ a, css.flatten = F a ∧ Q a
def fieldTys (P : Program) (t : TypeId) : Option (List TypeId) := match P.underlying t with
  | some (.struct fs) => some (fs.toList.map (·.type))
  | _ => none
def inK (k : IntKind) (n : Int) : Prop := (Lit.int k n).wf = true
theorem Ty.lengthI {P : Program} {t : TypeId} {k : IntKind} {cs : List PV} (hu : P.underlying t = some (.int k)) (h : Ty P t cs) : ∃ n, cs = [.int k n] ∧ inK k n := by
  cases h with
  | int n h wf => rw [hu] at h; injection h with h; injection h with h; subst h; exact ⟨_, rfl, wf⟩
  | bool b h => rw [hu] at h; cases h
  | str s h hl => rw [hu] at h; cases h
  | slice es h hb hes => rw [hu] at h; cases h
  | struct css h hl hf => rw [hu] at h; cases h
theorem Shp.i64 {P : Program} {t : TypeId} (hu : P.underlying t = some (.int .i64)) : Shp P t cI (inK .i64) := fun _ h => Ty.lengthI hu h
theorem Shp.int {P : Program} {t : TypeId} {k : IntKind} (hu : P.underlying t = some (.int k)) : Shp P t (cK k) (inK k) := fun _ h => Ty.lengthI hu h
theorem Shp.bool {P : Program} {t : TypeId} (hu : P.underlying t = some .bool) : Shp P t cB (fun _ => True) := fun cs h => by
  cases h with
  | int n h wf => rw [hu] at h; cases h
  | bool b h => exact ⟨b, rfl, trivial⟩
  | str s h hl => rw [hu] at h; cases h
  | slice es h hb hes => rw [hu] at h; cases h
  | struct css h hl hf => rw [hu] at h; cases h
theorem Shp.str {P : Program} {t : TypeId} (hu : P.underlying t = some .string) : Shp P t cS (fun s => s.length ≤ reachBytes) := fun cs h => by
  cases h with
  | int n h wf => rw [hu] at h; cases h
  | bool b h => rw [hu] at h; cases h
  | str s h hl => exact ⟨s, rfl, hl⟩
  | slice es h hb hes => rw [hu] at h; cases h
  | struct css h hl hf => rw [hu] at h; cases h
theorem Shp.slice {P : Program} {t e : TypeId} {A : Type} {F : A → List PV} {Q : A → Prop} {c b : Nat} (hu : P.underlying t = some (.slice e)) (hc : P.cellsOf e = c) (hb : P.bytesOf e = b) (s : Shp P e F Q) :
    Shp P t (cL c F) (fun l => l.length * b ≤ reachBytes ∧ ∀ a ∈ l, Q a) := fun cs h => by
  cases h with
  | int n h wf => rw [hu] at h; cases h
  | bool b h => rw [hu] at h; cases h
  | str s h hl => rw [hu] at h; cases h
  | slice es h hb' hes =>
    rw [hu] at h; injection h with h; injection h with h; subst h
    have key : ∀ es : List (List PV), (∀ (i : Nat) (cs : List PV), es[i]? = some cs → Ty P e cs) → ∃ l : List A, es = l.map F ∧ ∀ a ∈ l, Q a := by
      intro es
      induction es with
      | nil => intro _; exact ⟨[], rfl, by simp⟩
      | cons x es ih =>
        intro h
        obtain ⟨a, ha, qa⟩ := s x (h 0 x (by simp))
        obtain ⟨l, hl, ql⟩ := ih (fun i cs hi => h (i + 1) cs (by simpa using hi))
        refine ⟨a :: l, by rw [List.map_cons, ← ha, ← hl], fun y hy => ?_⟩
        rcases List.mem_cons.1 hy with rfl | hy
        · exact qa
        · exact ql y hy
    obtain ⟨l, hl, ql⟩ := key es hes
    subst hl
    refine ⟨l, by rw [hc]; rfl, ?_, ql⟩
    rw [List.length_map, hb] at hb'
    exact hb'
  | struct css h hl hf => rw [hu] at h; cases h
theorem Shp.struct {P : Program} {t : TypeId} {ts : List TypeId} {A : Type} {F : A → List PV} {Q : A → Prop} (hu : fieldTys P t = some ts) (s : Shps P ts F Q) : Shp P t F Q := fun cs h => by
  unfold fieldTys at hu
  cases h with
  | int n h wf => rw [h] at hu; cases hu
  | bool b h => rw [h] at hu; cases hu
  | str s h hl => rw [h] at hu; cases hu
  | slice es h hb hes => rw [h] at hu; cases hu
  | struct css h hl hf =>
    rw [h] at hu
    simp only [Option.some.injEq] at hu
    subst hu
    refine s css (by simpa using hl) fun j t cs h1 h2 => ?_
    rw [List.getElem?_map] at h1
    obtain ⟨f, h3, h4⟩ := Option.map_eq_some_iff.1 h1
    subst h4
    exact hf j f cs h3 h2
theorem Shps.nil {P : Program} : Shps P [] (fun (_ : Unit) => []) (fun _ => True) := fun css h _ => ⟨(), by
  have : css = [] := List.length_eq_zero_iff.1 (by simpa using h)
  rw [this]; rfl, trivial⟩
theorem Shps.cons {P : Program} {t : TypeId} {ts : List TypeId} {A B : Type} {F : A → List PV} {Q : A → Prop} {G : B → List PV} {R : B → Prop} (s : Shp P t F Q) (r : Shps P ts G R) :
    Shps P (t :: ts) (fun (x : A × B) => F x.1 ++ G x.2) (fun x => Q x.1 ∧ R x.2) := fun css h1 h2 => by
  cases css with
  | nil => cases h1
  | cons cs css =>
    obtain ⟨a, ha, qa⟩ := s cs (h2 0 t cs (by simp) (by simp))
    obtain ⟨b, hb, qb⟩ := r css (by simpa using h1) fun j t' cs' k1 k2 => h2 (j + 1) t' cs' (by simpa using k1) (by simpa using k2)
    exact ⟨(a, b), by rw [List.flatten_cons, ha, hb], qa, qb⟩
theorem Shp.of {P : Program} {t : TypeId} {A B : Type} {F : A → List PV} {Q : A → Prop} {G : B → List PV} {R : B → Prop} (s : Shp P t F Q) (g : A → B) (h : ∀ a, F a = G (g a)) (hQ : ∀ a, Q a → R (g a)) : Shp P t G R := fun cs hc => by
  obtain ⟨a, ha, qa⟩ := s cs hc
  exact ⟨g a, by rw [ha, h], hQ a qa⟩
def ShV (P : Program) (t : TypeId) {A : Type} (F : A → PV) (Q : A → Prop) : Prop := ∀ q, TyV P t q → ∃ a, q = F a ∧ Q a
theorem ShV.one {P : Program} {t : TypeId} {A : Type} {F : A → List PV} {Q : A → Prop} (hn : fieldTys P t = none) (s : Shp P t F Q) (G : A → PV) (h : ∀ a, F a = [G a]) : ShV P t G Q := fun q hq => by
  cases hq with
  | one h' hu =>
    obtain ⟨a, ha, qa⟩ := s _ h'
    rw [h] at ha
    injection ha with ha
    exact ⟨a, ha, qa⟩
  | agg h' hu => unfold fieldTys at hn; rw [hu] at hn; cases hn
theorem ShV.agg {P : Program} {t : TypeId} {A : Type} {F : A → List PV} {Q : A → Prop} (hn : (fieldTys P t).isSome = true) (s : Shp P t F Q) : ShV P t (fun a => .agg (F a)) Q := fun q hq => by
  cases hq with
  | one h' hu =>
    unfold fieldTys at hn
    split at hn
    · rename_i fs e; exact absurd e (hu fs)
    · cases hn
  | agg h' hu =>
    obtain ⟨a, ha, qa⟩ := s _ h'
    exact ⟨a, by rw [ha], qa⟩
def ShVs (P : Program) (ts : List TypeId) {A : Type} (F : A → List PV) (Q : A → Prop) : Prop := ∀ qs, TyVs P ts qs → ∃ a, qs = F a ∧ Q a
theorem ShVs.nil {P : Program} : ShVs P [] (fun (_ : Unit) => []) (fun _ => True) := fun qs h => by cases h; exact ⟨(), rfl, trivial⟩
theorem ShVs.cons {P : Program} {t : TypeId} {ts : List TypeId} {A B : Type} {F : A → PV} {Q : A → Prop} {G : B → List PV} {R : B → Prop} (s : ShV P t F Q) (r : ShVs P ts G R) :
    ShVs P (t :: ts) (fun (x : A × B) => F x.1 :: G x.2) (fun x => Q x.1 ∧ R x.2) := fun qs h => by
  cases h with
  | cons h1 h2 =>
    obtain ⟨a, ha, qa⟩ := s _ h1
    obtain ⟨b, hb, qb⟩ := r _ h2
    exact ⟨(a, b), by rw [ha, hb], qa, qb⟩
end Go.PW
