/- The floor of chapter 7 as Lean has it: what a deed does. -/
import Derived.Test.YtomcffionomidaaTasksDef
namespace Go.Proofs.Ytomcffionomidaa
open Go.RowKit

structure Nt where
  back : Bool
  t : Nat
  deriving DecidableEq

structure Dd where
  k : Int
  a : Int
  deriving DecidableEq

structure Fl where
  vats : List (List Int)
  books : List (List Bool)
  known : List Bool
  saved : List Bool
  wire : List Nt

def cN (n : Nt) : Array Value := #[.bool n.back, .int .i64 n.t]
def cD (d : Dd) : Array Value := #[.int .i64 d.k, .int .i64 d.a]
def cBo (b : Bool) : Array Value := #[.bool b]

theorem cN_size (n : Nt) : (cN n).size = 2 := rfl
theorem cN_one (n : Nt) : (cN n).all (·.oneCell') = true := by simp [cN, Value.oneCell']
theorem cD_size (d : Dd) : (cD d).size = 2 := rfl
theorem cD_one (d : Dd) : (cD d).all (·.oneCell') = true := by simp [cD, Value.oneCell']
theorem cBo_size (b : Bool) : (cBo b).size = 1 := rfl
theorem cBo_one (b : Bool) : (cBo b).all (·.oneCell') = true := by simp [cBo, Value.oneCell']

/-- The room of a task. -/
def roomOf (r t : Nat) : Nat := t % r

/-- A task's drops are added. -/
def addTo (vats : List (List Int)) (t : Tsk) : List (List Int) :=
  vats.set t.b.toNat ((vats.getD t.b.toNat []).set t.j.toNat (wrap64 ((vats.getD t.b.toNat []).getD t.j.toNat 0 + t.n)))

def bookAt (f : Fl) (room t : Nat) : Bool := (f.books.getD room []).getD t false
def bookSet (f : Fl) (room t : Nat) : List (List Bool) := f.books.set room ((f.books.getD room []).set t true)

/-- A note comes in. -/
def pour (r : Nat) (ts : List Tsk) (f : Fl) (n : Nt) : Fl :=
  match n.back, bookAt f (roomOf r n.t) n.t with
  | true, _ => { f with known := f.known.set n.t true }
  | false, true => { f with wire := f.wire ++ [⟨true, n.t⟩] }
  | false, false => { f with vats := addTo f.vats (ts.getD n.t ⟨0, 0, 0⟩), books := bookSet f (roomOf r n.t) n.t, wire := f.wire ++ [⟨true, n.t⟩] }

/-- A deed with a note. -/
def wireDo (r : Nat) (ts : List Tsk) (f : Fl) (d : Dd) : Fl × Int :=
  match f.wire[d.a.toNat]? with
  | none => (f, 2)
  | some n =>
    if d.k = 3 ∧ n.back = false ∧ 10 ≤ f.wire.length then (f, 3)
    else
      let f1 : Fl := if d.k = 3 then f else { f with wire := f.wire.eraseIdx d.a.toNat }
      (if d.k = 4 then f1 else pour r ts f1 n, 0)

/-- A valid deed. -/
def step (r : Nat) (ts : List Tsk) (f : Fl) (d : Dd) : Fl × Int :=
  if d.k = 1 then
    (if (ts.length : Int) ≤ d.a then (f, 2)
    else if f.known.getD d.a.toNat false = true then (f, 4)
    else if 10 ≤ f.wire.length then (f, 3)
    else ({ f with wire := f.wire ++ [⟨false, d.a.toNat⟩] }, 0))
  else if d.k = 5 then ({ f with saved := f.known }, 0)
  else if d.k = 6 then ({ f with known := f.saved }, 0)
  else wireDo r ts f d

/-- What a deed must be. -/
def okDeed (d : Dd) : Bool := decide (1 ≤ d.k) && decide (d.k ≤ 6) && (decide (0 ≤ d.a) && decide (d.a ≤ 999)) && (decide (d.k < 5) || decide (d.a = 0))

/-- A floor of works with 'nb' batches and 'r' rooms. -/
structure FlOk (r nb : Nat) (ts : List Tsk) (f : Fl) : Prop where
  r1 : 1 ≤ r
  r4 : r ≤ 4
  n48 : ts.length ≤ 48
  tk : ∀ t ∈ ts, 0 ≤ t.b ∧ t.b < nb ∧ 0 ≤ t.j ∧ t.j < 8
  vats : f.vats.length = nb
  vat : ∀ v ∈ f.vats, v.length = 8
  books : f.books.length = r
  book : ∀ l ∈ f.books, l.length = ts.length
  known : f.known.length = ts.length
  saved : f.saved.length = ts.length
  wire : ∀ n ∈ f.wire, n.t < ts.length
  w10 : f.wire.length ≤ 10

theorem mem_set_of {α : Type} {l : List α} {i : Nat} {a x : α} (h : x ∈ l.set i a) : x ∈ l ∨ x = a := List.mem_or_eq_of_mem_set h

theorem FlOk.pour {r nb : Nat} {ts : List Tsk} {f : Fl} (h : FlOk r nb ts f) {n : Nt} (hn : n.t < ts.length) (hw : n.back = false → f.wire.length < 10) : FlOk r nb ts (pour r ts f n) := by
  obtain ⟨b, t⟩ := n
  replace hn : t < ts.length := hn
  have hroom : roomOf r t < f.books.length := by rw [h.books]; exact Nat.mod_lt _ (by have := h.r1; omega)
  have hb : (f.books.getD (roomOf r t) []).length = ts.length := by
    rw [List.getD_eq_getElem?_getD, List.getElem?_eq_getElem hroom]; exact h.book _ (List.getElem_mem hroom)
  have hwire : b = false → (∀ n ∈ f.wire ++ [⟨true, t⟩], n.t < ts.length) ∧ (f.wire ++ [(⟨true, t⟩ : Nt)]).length ≤ 10 := fun e => by
    refine ⟨fun n hn' => ?_, by have := hw e; simp; omega⟩
    rcases List.mem_append.1 hn' with h1 | h1
    · exact h.wire _ h1
    · simp at h1; subst h1; exact hn
  unfold Go.Proofs.Ytomcffionomidaa.pour
  split
  · exact { h with known := by simpa using h.known }
  · rename_i e _; simp at e; obtain ⟨h1, h2⟩ := hwire e
    exact { h with wire := h1, w10 := h2 }
  · rename_i e _; simp at e; obtain ⟨h1, h2⟩ := hwire e
    have hmem := List.getElem_mem (l := ts) hn
    have htd : ts.getD t ⟨0, 0, 0⟩ = ts[t] := by rw [List.getD_eq_getElem?_getD, List.getElem?_eq_getElem hn]; rfl
    obtain ⟨t1, t2, t3, t4⟩ := h.tk _ hmem
    refine { h with wire := h1, w10 := h2, vats := by simpa [addTo] using h.vats, vat := ?_, books := by simpa [bookSet] using h.books, book := ?_ }
    · intro v hv
      simp only [htd, addTo] at hv
      rcases mem_set_of hv with h3 | rfl
      · exact h.vat _ h3
      · have : (ts[t]).b.toNat < f.vats.length := by rw [h.vats]; omega
        simp only [List.length_set, List.getD_eq_getElem?_getD, List.getElem?_eq_getElem this]
        exact h.vat _ (List.getElem_mem this)
    · intro l hl
      simp only [bookSet] at hl
      rcases mem_set_of hl with h3 | rfl
      · exact h.book _ h3
      · simpa using hb

theorem FlOk.wireDo {r nb : Nat} {ts : List Tsk} {f : Fl} (h : FlOk r nb ts f) (d : Dd) : FlOk r nb ts (wireDo r ts f d).1 := by
  unfold Go.Proofs.Ytomcffionomidaa.wireDo
  split
  · exact h
  · rename_i n hn
    have hmem := List.mem_of_getElem? hn
    have hlen := (List.getElem?_eq_some_iff.1 hn).1
    split
    · exact h
    · rename_i hc
      have hf1 : FlOk r nb ts (if d.k = 3 then f else { f with wire := f.wire.eraseIdx d.a.toNat }) := by
        split
        · exact h
        · exact { h with wire := fun n hn => h.wire n (List.mem_of_mem_eraseIdx hn), w10 := by have := h.w10; have := List.length_eraseIdx_of_lt hlen; simp only [this]; omega }
      dsimp only
      split
      · exact hf1
      · refine hf1.pour (h.wire _ hmem) fun e => ?_
        split
        · rename_i h3; simp only [h3, e, true_and] at hc; omega
        · have := h.w10; have := List.length_eraseIdx_of_lt hlen; simp only [this]; omega

theorem FlOk.step {r nb : Nat} {ts : List Tsk} {f : Fl} (h : FlOk r nb ts f) {d : Dd} (ha : 0 ≤ d.a) : FlOk r nb ts (step r ts f d).1 := by
  unfold Go.Proofs.Ytomcffionomidaa.step
  split
  · split
    · exact h
    · split
      · exact h
      · split
        · exact h
        · refine { h with wire := fun n hn => ?_, w10 := by simp; omega }
          rcases List.mem_append.1 hn with h1 | h1
          · exact h.wire _ h1
          · simp at h1; subst h1; show d.a.toNat < _; omega
  · split
    · exact { h with saved := h.known }
    · split
      · exact { h with known := h.saved }
      · exact h.wireDo d

/-- A floor in the beginning. -/
def floor0 (r nb n : Nat) : Fl := ⟨List.replicate nb (List.replicate 8 0), List.replicate r (List.replicate n false), List.replicate n false, List.replicate n false, []⟩

theorem floor0_ok {r nb : Nat} {ts : List Tsk} (h1 : 1 ≤ r) (h4 : r ≤ 4) (hn : ts.length ≤ 48) (ht : ∀ t ∈ ts, 0 ≤ t.b ∧ t.b < nb ∧ 0 ≤ t.j ∧ t.j < 8) : FlOk r nb ts (floor0 r nb ts.length) :=
  ⟨h1, h4, hn, ht, by simp [floor0], fun v hv => by simp [floor0] at hv; simp [hv.2], by simp [floor0], fun l hl => by simp [floor0] at hl; simp [hl.2], by simp [floor0], by simp [floor0], fun n hn => by simp [floor0] at hn, by simp [floor0]⟩

/-- All deeds, one after the other. -/
def runAll (r : Nat) (ts : List Tsk) (f : Fl) : List Dd → Fl × List Int
  | [] => (f, [])
  | d :: ds => let s := step r ts f d; let t := runAll r ts s.1 ds; (t.1, s.2 :: t.2)
end Go.Proofs.Ytomcffionomidaa
