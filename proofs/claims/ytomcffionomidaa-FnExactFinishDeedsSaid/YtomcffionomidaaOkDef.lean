/- What valid works are, in plain Lean. -/
import Derived.Test.YtomcffionomidaaData
namespace Go.Proofs.Ytomcffionomidaa

def okByte (c : UInt8) : Bool := decide (97 ≤ c.toNat) && decide (c.toNat ≤ 122)
def okName (s : ByteArray) : Bool := s.data.toList.all okByte && (decide (1 ≤ s.size) && decide (s.size ≤ 12))
def okDrop (n : Int) : Bool := decide (0 ≤ n) && decide (n ≤ 100000)
def okDrops (d : List Int) : Bool := d.all okDrop
/-- No batch ahead of the batch i has its name. -/
def firstAt (bs : List Bat) (i : Nat) (s : ByteArray) : Bool := (bs.take i).all fun b => !(b.name.toList == s.toList)
def okAt (bs : List Bat) (i : Nat) : Bool :=
  match bs[i]? with
  | some b => okName b.name && firstAt bs i b.name && okDrops b.d
  | none => true
def okWorks (r : Int) (bs : List Bat) : Bool :=
  decide (1 ≤ r) && decide (r ≤ 4) && (decide (1 ≤ bs.length) && decide (bs.length ≤ 6)) && (List.range bs.length).all (okAt bs)

theorem okName_false (s : ByteArray) (k : Nat) (h : k < s.size) (hb : (s[k].toNat : Int) < 97 ∨ 122 < (s[k].toNat : Int)) : okName s = false := by
  have hk : k < s.data.toList.length := by simpa using h
  have : s.data.toList.all okByte = false := by
    rw [List.all_eq_false]
    refine ⟨s[k], ?_, ?_⟩
    · exact (show s[k] = s.data.toList[k] from rfl) ▸ List.getElem_mem hk
    · unfold okByte; simp; omega
  simp [okName, this]

theorem okName_size (s : ByteArray) (h : ∀ k (h : k < s.size), 97 ≤ (s[k].toNat : Int) ∧ (s[k].toNat : Int) ≤ 122) : okName s = (decide (1 ≤ (s.size : Int)) && decide ((s.size : Int) ≤ 12)) := by
  have : s.data.toList.all okByte = true := by
    rw [List.all_eq_true]
    intro c hc
    obtain ⟨k, hk, rfl⟩ := List.getElem_of_mem hc
    have := h k (by simpa using hk)
    simp only [okByte, Bool.and_eq_true, decide_eq_true_eq]
    have e : s.data.toList[k] = s[k]'(by simpa using hk) := rfl
    rw [e]; omega
  rw [Bool.eq_iff_iff]
  simp [okName, this]; omega

theorem firstAt_succ (bs : List Bat) (i : Nat) (s : ByteArray) (h : i < bs.length) : firstAt bs (i + 1) s = (firstAt bs i s && !(bs[i].name.toList == s.toList)) := by
  unfold firstAt
  rw [List.take_succ_eq_append_getElem h, List.all_append, List.all_cons, List.all_nil, Bool.and_true]

theorem okWorks_rooms {r : Int} {bs : List Bat} (h : ¬ (1 ≤ r ∧ r ≤ 4)) : okWorks r bs = false := by
  have : (decide (1 ≤ r) && decide (r ≤ 4)) = false := by simp; omega
  simp [okWorks, this]
theorem okWorks_len {r : Int} {bs : List Bat} (h : ¬ (1 ≤ bs.length ∧ bs.length ≤ 6)) : okWorks r bs = false := by
  have : (decide (1 ≤ bs.length) && decide (bs.length ≤ 6)) = false := by simp; omega
  simp [okWorks, this]
theorem okWorks_at {r : Int} {bs : List Bat} {i : Nat} (h : i < bs.length) (ho : okAt bs i = false) : okWorks r bs = false := by
  have : (List.range bs.length).all (okAt bs) = false := by
    rw [List.all_eq_false]; exact ⟨i, by simpa using h, by simp [ho]⟩
  simp [okWorks, this]
theorem okWorks_true {r : Int} {bs : List Bat} (h1 : 1 ≤ r) (h2 : r ≤ 4) (h3 : 1 ≤ bs.length) (h4 : bs.length ≤ 6) (h : ∀ i, i < bs.length → okAt bs i = true) : okWorks r bs = true := by
  have : (List.range bs.length).all (okAt bs) = true := by
    rw [List.all_eq_true]; exact fun i hi => h i (by simpa using hi)
  simp [okWorks, this, h1, h2, h3, h4]
theorem okWorks_parts {r : Int} {bs : List Bat} (h : okWorks r bs = true) : 1 ≤ r ∧ r ≤ 4 ∧ 1 ≤ bs.length ∧ bs.length ≤ 6 ∧ ∀ i, i < bs.length → okAt bs i = true := by
  simp only [okWorks, Bool.and_eq_true, decide_eq_true_eq, List.all_eq_true, List.mem_range] at h
  exact ⟨h.1.1.1, h.1.1.2, h.1.2.1, h.1.2.2, h.2⟩
theorem okAt_def {bs : List Bat} {i : Nat} (h : i < bs.length) : okAt bs i = (okName bs[i].name && firstAt bs i bs[i].name && okDrops bs[i].d) := by
  simp [okAt, h]
end Go.Proofs.Ytomcffionomidaa
