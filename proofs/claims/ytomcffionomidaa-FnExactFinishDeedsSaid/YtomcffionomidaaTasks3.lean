/- 'TasksOf' of the reference and of the program: one list, one code. -/
import Derived.Test.YtomcffionomidaaTasks2
import Derived.Test.YtomcffionomidaaOk5
namespace Go.Proofs.Ytomcffionomidaa
open Go.RowKit

/-- What 'TasksOf' answers. -/
def TasksRes (r : Int) (bs : List Bat) (xs : List Tsk) (code : Int) : Prop :=
  (okWorks r bs = true ∧ xs = tasksOf bs ∧ code = 0) ∨ (okWorks r bs = false ∧ xs = [] ∧ code = 1)

theorem tasksRes_ex (r : Int) (bs : List Bat) : ∃ xs code, TasksRes r bs xs code ∧ xs.length ≤ 48 := by
  cases h : okWorks r bs with
  | true =>
    obtain ⟨_, _, _, h4, _⟩ := okWorks_parts h
    exact ⟨_, _, .inl ⟨h, rfl, rfl⟩, by have := tasksTo_len bs bs.length; unfold tasksOf; omega⟩
  | false => exact ⟨_, _, .inr ⟨h, rfl, rfl⟩, by simp⟩

/-- What is known of works that came in. -/
structure WorksAt (w : World) (A : Option Addr) (c : Nat) (bs : List Bat) : Prop where
  at_ : SlAt w 9 A (bs.map cB)
  n : bs.length ≤ 140737488355328
  c : bs.length ≤ c
  d8 : ∀ b ∈ bs, b.d.length = 8
  nm : ∀ b ∈ bs, b.name.size ≤ 140737488355328

/-- .. before its size was counted. -/
structure WorksRaw (w : World) (A : Option Addr) (c : Nat) (bs : List Bat) : Prop where
  at_ : SlAt w 9 A (bs.map cB)
  n : bs.length ≤ 9223372036854775807
  c : bs.length ≤ c
  d8 : ∀ b ∈ bs, b.d.length = 8
  nm : ∀ b ∈ bs, b.name.size ≤ 9223372036854775807

theorem WorksRaw.below {w w' : World} {A : Option Addr} {c : Nat} {bs : List Bat} (h : WorksRaw w A c bs) (hb : Below w.heap.size w w') : WorksRaw w' A c bs := ⟨h.at_.below hb, h.n, h.c, h.d8, h.nm⟩

theorem WorksRaw.small {w : World} {A : Option Addr} {c : Nat} {bs : List Bat} (h : WorksRaw w A c bs) (hs : bs.length ≤ 1048576 ∧ ∀ b ∈ bs, b.name.size ≤ 1048576) : WorksAt w A c bs :=
  ⟨h.at_, by omega, h.c, h.d8, fun b hb => by have := hs.2 b hb; omega⟩

theorem WorksAt.below {w w' : World} {A : Option Addr} {c : Nat} {bs : List Bat} (h : WorksAt w A c bs) (hb : Below w.heap.size w w') : WorksAt w' A c bs := ⟨h.at_.below hb, h.n, h.c, h.d8, h.nm⟩

theorem l07Ok_is {p : Nat} {r : Int} {A : Option Addr} {c : Nat} {bs : List Bat} {w : World} {b : Bool} (hp : p < w.heap.size) (h0 : w.cell? ⟨p, 0, none⟩ = some (.int .i64 r)) (h1 : w.cell? ⟨p, 1, none⟩ = some (.slice A bs.length c)) (h : WorksAt w A c bs) (hok : okWorks r bs = b) :
    Calls Try.prog 43 #[.pointer (some ⟨p, 0, none⟩)] w (BoolBel b w) := hok ▸ l07Ok_any p r A c bs w hp h0 h1 h.at_ h.n h.c h.d8 h.nm

theorem ValidWorks_is {r : Int} {A : Option Addr} {c : Nat} {bs : List Bat} {w : World} {b : Bool} (h : WorksAt w A c bs) (hok : okWorks r bs = b) :
    Calls Try.prog 46 #[.agg #[.int .i64 r, .slice A bs.length c]] w (BoolBel b w) := by
  subst hok
  by_cases h1 : (1 ≤ r ∧ r ≤ 4) ∧ (1 ≤ bs.length ∧ bs.length ≤ 6)
  · exact ValidWorks_yes r A c bs w h1.1.1 h1.1.2 h1.2.1 h1.2.2 h.at_ h.d8 h.nm
  · exact ValidWorks_no r A c bs w h1

def TasksPost (w : World) (xs : List Tsk) (code : Int) (e : Ending) (w' : World) : Prop :=
  ∃ v, e = .returned (.tuple #[v, .int .i64 code]) ∧ Row w' w.heap.size 74 3 v (xs.map cT) ∧ Below w.heap.size w w'

theorem Row.base {w : World} {base base' : Nat} {e : TypeId} {sz : Nat} {v : Value} {xs : List (Array Value)} (h : Row w base e sz v xs) (hb : base' ≤ base) : Row w base' e sz v xs :=
  ⟨h.1, h.2.1, by
    rcases h.2.2 with h0 | ⟨g, cap, cur, h1, h2, h3⟩
    · exact .inl h0
    · exact .inr ⟨g, cap, cur, h1, by omega, h3⟩⟩

set_option maxRecDepth 100000 in
theorem specTasksOf_any (r : Int) (A : Option Addr) (c : Nat) (bs : List Bat) (xs : List Tsk) (code : Int) (w : World) (h : WorksAt w A c bs) (hr : TasksRes r bs xs code) :
    Calls Try.prog 11 #[.agg #[.int .i64 r, .slice A bs.length c]] w (TasksPost w xs code) := by
  have hbox : Below w.heap.size w (w.alloc (.cells #[.int .i64 r, .slice A bs.length c] 31)) := (Below.refl _ _).alloc (Nat.le_refl _) _
  have c0 : (w.alloc (.cells #[.int .i64 r, .slice A bs.length c] 31)).cell? ⟨w.heap.size, 0, none⟩ = some (.int .i64 r) := by rw [World.cell?_alloc_at _ _ _ _ rfl]; rfl
  have c1 : (w.alloc (.cells #[.int .i64 r, .slice A bs.length c] 31)).cell? ⟨w.heap.size, 1, none⟩ = some (.slice A bs.length c) := by rw [World.cell?_alloc_at _ _ _ _ rfl]; rfl
  have h' := h.below hbox
  have hz : w.heap.size < (w.alloc (.cells #[.int .i64 r, .slice A bs.length c] 31)).heap.size := by simp
  rcases hr with ⟨hok, rfl, rfl⟩ | ⟨hok, rfl, rfl⟩
  · obtain ⟨_, _, _, h6, _⟩ := okWorks_parts hok
    go_enter Try.func11, Try.ntmps11
    go_wp2_with fail
    refine (l07Ok_is hz c0 c1 h' hok).mono ?_
    rintro e w1 ⟨rfl, hb1⟩
    have d1 := (hb1.cell (p := ⟨w.heap.size, 1, none⟩) hz).trans c1
    go_wp2_with fail
    refine (l07Tasks_any w.heap.size A c bs w1 (by have := hb1.size; simp at this; omega) d1 (h'.below hb1).at_ h6 h.d8).mono ?_
    rintro e w2 ⟨v, rfl, hR, hb2⟩
    go_wp2
    go_ret2
    have hz1 := hb1.size
    simp at hz1
    exact ⟨v, rfl, hR.base (by omega), (hbox.trans (hb1.mono (by simp))).trans (hb2.mono (by omega))⟩
  · go_enter Try.func11, Try.ntmps11
    go_wp2_with fail
    refine (l07Ok_is hz c0 c1 h' hok).mono ?_
    rintro e w1 ⟨rfl, hb1⟩
    go_wp2
    go_ret2
    have hz1 := hb1.size
    simp at hz1
    exact ⟨_, rfl, (Row.empty w1 (by omega) _ _), (hbox.trans (hb1.mono (by simp))).alloc (by omega) _⟩

set_option maxRecDepth 100000 in
theorem implTasksOf_any (r : Int) (A : Option Addr) (c : Nat) (bs : List Bat) (xs : List Tsk) (code : Int) (w : World) (h : WorksAt w A c bs) (hr : TasksRes r bs xs code) :
    Calls Try.prog 13 #[.agg #[.int .i64 r, .slice A bs.length c]] w (TasksPost w xs code) := by
  have hbox : Below w.heap.size w (w.alloc (.cells #[.int .i64 r, .slice A bs.length c] 31)) := (Below.refl _ _).alloc (Nat.le_refl _) _
  have c0 : (w.alloc (.cells #[.int .i64 r, .slice A bs.length c] 31)).cell? ⟨w.heap.size, 0, none⟩ = some (.int .i64 r) := by rw [World.cell?_alloc_at _ _ _ _ rfl]; rfl
  have c1 : (w.alloc (.cells #[.int .i64 r, .slice A bs.length c] 31)).cell? ⟨w.heap.size, 1, none⟩ = some (.slice A bs.length c) := by rw [World.cell?_alloc_at _ _ _ _ rfl]; rfl
  have h' := h.below hbox
  have hz : w.heap.size < (w.alloc (.cells #[.int .i64 r, .slice A bs.length c] 31)).heap.size := by simp
  rcases hr with ⟨hok, rfl, rfl⟩ | ⟨hok, rfl, rfl⟩
  · obtain ⟨_, _, _, h6, _⟩ := okWorks_parts hok
    go_enter Try.func13, Try.ntmps13
    go_wp2_with fail
    refine (ValidWorks_is h' hok).mono ?_
    rintro e w1 ⟨rfl, hb1⟩
    have d0 := (hb1.cell (p := ⟨w.heap.size, 0, none⟩) hz).trans c0
    have d1 := (hb1.cell (p := ⟨w.heap.size, 1, none⟩) hz).trans c1
    go_wp2_with fail
    refine (tasks_any r A c bs w1 (h'.below hb1).at_ h6 h.d8).mono ?_
    rintro e w2 ⟨v, rfl, hR, hb2⟩
    go_wp2
    go_ret2
    have hz1 := hb1.size
    simp at hz1
    exact ⟨v, rfl, hR.base (by omega), (hbox.trans (hb1.mono (by simp))).trans (hb2.mono (by omega))⟩
  · go_enter Try.func13, Try.ntmps13
    go_wp2_with fail
    refine (ValidWorks_is h' hok).mono ?_
    rintro e w1 ⟨rfl, hb1⟩
    go_wp2
    go_ret2
    exact ⟨_, rfl, Row.nil _ _ _ _, hbox.trans (hb1.mono (by simp))⟩

theorem szWorks_any (r : Int) (A : Option Addr) (c : Nat) (bs : List Bat) (w : World) (h : WorksRaw w A c bs) :
    Calls Try.prog 10 #[.agg #[.int .i64 r, .slice A bs.length c], .int .i64 1048576] w (SzPost bs w) := by
  have hbox : Below w.heap.size w (w.alloc (.cells #[.int .i64 r, .slice A bs.length c] 24)) := (Below.refl _ _).alloc (Nat.le_refl _) _
  go_enter Try.func10, Try.ntmps10
  go_wp2_with fail
  refine (szBatchS_any A c bs _ (h.at_.below hbox) h.nm h.n).mono ?_
  rintro e w1 ⟨q, rfl, hq, hb1⟩
  go_wp2
  all_goals go_ret
  · exact ⟨-1, rfl, fun h => by omega, hbox.trans (hb1.mono (by simp))⟩
  · exact ⟨q, rfl, hq, hbox.trans (hb1.mono (by simp))⟩
end Go.Proofs.Ytomcffionomidaa
