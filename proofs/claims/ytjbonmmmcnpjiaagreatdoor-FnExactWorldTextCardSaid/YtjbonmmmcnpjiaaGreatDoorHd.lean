/- A world in words. No condition. -/
import Derived.Test.YtjbonmmmcnpjiaaGreatDoorHc
import Derived.Test.YtjbonmmmcnpjiaaGreatDoorML
import Derived.Test.YtjbonmmmcnpjiaaGreatDoorFt
import Derived.Test.YtjbonmmmcnpjiaaGreatDoorH4
namespace Go.Proofs.YtjbonmmmcnpjiaaGreatDoor
theorem numB_size (n : Int) : (baOf (numT n)).size ≤ 1000000001 := by rw [baOf_size]; exact numT_len n
def lockT (k : Int) : ByteArray := if k = -1 then ⟨#[108, 111, 99, 107, 32, 45, 10]⟩ else ((⟨#[108, 111, 99, 107, 32]⟩ : ByteArray) ++ baOf (numT k)) ++ ⟨#[10]⟩
theorem lockT_size (k : Int) : (lockT k).size ≤ 1000000100 := by
  have := numB_size k
  unfold lockT
  split
  · decide
  · rw [ByteArray.size_append, ByteArray.size_append, show (⟨#[108, 111, 99, 107, 32]⟩ : ByteArray).size = 5 from rfl, show (⟨#[10]⟩ : ByteArray).size = 1 from rfl]
    omega
theorem z1 : (⟨#[32]⟩ : ByteArray).size = 1 := rfl
theorem z10 : (⟨#[10]⟩ : ByteArray).size = 1 := rfl
theorem z5 : (⟨#[108, 111, 99, 107, 32]⟩ : ByteArray).size = 5 := rfl
theorem z7 : (⟨#[108, 111, 99, 107, 32, 45, 10]⟩ : ByteArray).size = 7 := rfl
theorem z6 : (⟨#[113, 117, 101, 117, 101, 32]⟩ : ByteArray).size = 6 := rfl
theorem z5' : (⟨#[115, 116, 101, 112, 32]⟩ : ByteArray).size = 5 := rfl
theorem i_locksT (w : DWorld) (s : ByteArray) (hs : s.size ≤ 10000000000) (hl : w.locks.length ≤ 4) : eachN (x_impl_WorldText_f0 w) (fun (s : ByteArray) => (s : ByteArray)) w.locks.length 0 s = some (w.locks.foldl (fun s k => s ++ lockT k) s) :=
  each_fold (F := x_impl_WorldText_f0 w) (e := fun (s : ByteArray) => (s : ByteArray)) w.locks (fun _ k s => s.size ≤ 10000000000 + 1000000100 * k) (fun s k => s ++ lockT k) (fun x r k s hk hx hP => by
    have hn := numB_size x
    have ht := lockT_size x
    refine ⟨?_, by rw [ByteArray.size_append]; omega⟩
    unfold x_impl_WorldText_f0 x_impl_WorldText_b0
    rw [hx]
    unfold lockT
    by_cases h : x = -1
    · rw [cd_t h, if_pos h, xg_of (by rw [z7]; omega)]
    · rw [cd_f h, if_neg h, i_NumText, Option.bind_some, xg_of (by rw [z5]; omega), xg_of (by simp only [ByteArray.size_append, z5, z10]; omega), xg_of (by simp only [ByteArray.size_append, z5, z10]; omega)]) s (by omega)
theorem s_locksT (w : DWorld) (s : ByteArray) (hs : s.size ≤ 10000000000) (hl : w.locks.length ≤ 4) : eachN (x_spec_WorldText_f0 w) (fun (s : ByteArray) => (s : ByteArray)) w.locks.length 0 s = some (w.locks.foldl (fun s k => s ++ lockT k) s) :=
  each_fold (F := x_spec_WorldText_f0 w) (e := fun (s : ByteArray) => (s : ByteArray)) w.locks (fun _ k s => s.size ≤ 10000000000 + 1000000100 * k) (fun s k => s ++ lockT k) (fun x r k s hk hx hP => by
    have hn := numB_size x
    have ht := lockT_size x
    refine ⟨?_, by rw [ByteArray.size_append]; omega⟩
    unfold x_spec_WorldText_f0 x_spec_WorldText_b0
    rw [hx]
    unfold lockT
    by_cases h : x = -1
    · rw [cd_t h, if_pos h, xg_of (by rw [z7]; omega)]
    · rw [cd_f h, if_neg h, xg_of (by rw [z5]; omega), s_NumText, Option.bind_some, xg_of (by simp only [ByteArray.size_append, z5]; omega), xg_of (by simp only [ByteArray.size_append, z5, z10]; omega)]
      simp only [ByteArray.append_assoc]) s (by omega)
theorem fold_size {T : Type} (f : T → ByteArray) (b : Nat) : ∀ (l : List T) (s : ByteArray), (∀ x ∈ l, (f x).size ≤ b) → (l.foldl (fun s x => s ++ f x) s).size ≤ s.size + b * l.length
  | [], s, _ => by simp
  | x :: l, s, h => by
    have := fold_size f b l (s ++ f x) (fun y hy => h y (List.mem_cons_of_mem _ hy))
    have h2 := h x (List.mem_cons_self ..)
    rw [ByteArray.size_append] at this
    simp only [List.foldl_cons, List.length_cons, Nat.mul_add, Nat.mul_one]
    omega
def queueT (q : DQueue) : ByteArray := (q.list.foldl (fun s k => s ++ ((⟨#[32]⟩ : ByteArray) ++ baOf (numT k))) ((⟨#[113, 117, 101, 117, 101, 32]⟩ : ByteArray) ++ q.doc)) ++ ⟨#[10]⟩
theorem fold_front {T : Type} (f : T → ByteArray) : ∀ (l : List T) (a s : ByteArray), l.foldl (fun s x => s ++ f x) (a ++ s) = a ++ l.foldl (fun s x => s ++ f x) s
  | [], _, _ => rfl
  | x :: l, a, s => by rw [List.foldl_cons, List.foldl_cons, ByteArray.append_assoc, fold_front f l]
theorem queueT_size {q : DQueue} (hd : q.doc.size ≤ 1099511627776) (hq : q.list.length ≤ 2) : (queueT q).size ≤ 1200000000000 := by
  unfold queueT
  have h := fold_size (fun k : Int => (⟨#[32]⟩ : ByteArray) ++ baOf (numT k)) 1000000002 q.list ((⟨#[113, 117, 101, 117, 101, 32]⟩ : ByteArray) ++ q.doc) (fun x _ => by have := numB_size x; rw [ByteArray.size_append, z1]; omega)
  rw [ByteArray.size_append, z6] at h
  rw [ByteArray.size_append, z10]
  have : 1000000002 * q.list.length ≤ 1000000002 * 2 := Nat.mul_le_mul_left _ hq
  omega
theorem queues_two {w : DWorld} : ∀ {l : List DQueue} {p : Option DQueue} {qd : List Int}, (qsIn w p qd l).isSome = true → ∀ q ∈ l, q.list.length ≤ 2
  | [], _, _, _, _, h => by cases h
  | x :: r, p, qd, h, q, hq => by
    rw [qsIn] at h
    split at h
    · rename_i hc
      rcases List.mem_cons.1 hq with rfl | hq
      · exact hc.1.2.2
      · cases hm : qIn w x.doc qd x.list with
        | none => rw [hm] at h; cases h
        | some m => rw [hm] at h; exact queues_two h q hq
    · cases h
theorem okWorld_get {w : DWorld} (h : okWorld w = true) : okHub w.h = true ∧ (1 ≤ w.locks.length ∧ w.locks.length ≤ 4) ∧ w.tasks.length ≤ 10 ∧ (0 ≤ w.step ∧ w.step ≤ 1000000) ∧ w.tasks.all okTask = true ∧ okSteps w.tasks w.step = true ∧ okLocks w = true ∧ okQueues w = true := by
  unfold okWorld at h
  simp only [Bool.and_eq_true, decide_eq_true_eq] at h
  exact ⟨h.1.1.1.1, h.1.1.1.2, h.1.1.2, h.1.2, h.2.1, h.2.2.1, h.2.2.2.1, h.2.2.2.2⟩
theorem okWorld_two {w : DWorld} (h : okWorld w = true) : ∀ q ∈ w.queues, q.list.length ≤ 2 := by
  have := (okWorld_get h).2.2.2.2.2.2.2
  unfold okQueues at this
  cases hq : qsIn w none [] w.queues with
  | none => rw [hq] at this; cases this
  | some m => exact queues_two (by rw [hq]; rfl)
theorem i_queuesT (w : DWorld) (s : ByteArray) (hs : s.size ≤ 20000000000) (hl : w.queues.length ≤ 1048576) (h2 : ∀ q ∈ w.queues, q.doc.size ≤ 1099511627776 ∧ q.list.length ≤ 2) : eachN (x_impl_WorldText_f1 w) (fun (s : ByteArray) => (s : ByteArray)) w.queues.length 0 s = some (w.queues.foldl (fun s q => s ++ queueT q) s) :=
  each_fold (F := x_impl_WorldText_f1 w) (e := fun (s : ByteArray) => (s : ByteArray)) w.queues (fun _ k s => s.size ≤ 20000000000 + 1200000000000 * k) (fun s q => s ++ queueT q) (fun x r k s hk hx hP => by
    have hxx := h2 x (hx ▸ el_mem hk)
    have ht := queueT_size hxx.1 hxx.2
    refine ⟨?_, by rw [ByteArray.size_append]; omega⟩
    unfold x_impl_WorldText_f1 x_impl_WorldText_b1
    rw [hx, xg_of (by rw [z6]; omega), xg_of (by simp only [ByteArray.size_append, z6]; omega)]
    rw [each_fold (F := x_impl_WorldText_f2 w k) (e := fun (s : ByteArray) => (s : ByteArray)) x.list (fun _ j z => z.size ≤ s.size + x.doc.size + 6 + 1000000002 * j) (fun s k => s ++ ((⟨#[32]⟩ : ByteArray) ++ baOf (numT k))) (fun y q j z hj hy hQ => by
      have hn := numB_size y
      refine ⟨?_, by simp only [ByteArray.size_append, z1]; omega⟩
      unfold x_impl_WorldText_f2 x_impl_WorldText_b2
      rw [hx, hy, i_NumText, Option.bind_some, xg_of (by rw [z1]; omega), xg_of (by simp only [ByteArray.size_append, z1]; omega)]) _ (by simp only [ByteArray.size_append, z6]; omega), Option.bind_some]
    have hf := fold_front (fun k : Int => (⟨#[32]⟩ : ByteArray) ++ baOf (numT k)) x.list s ((⟨#[113, 117, 101, 117, 101, 32]⟩ : ByteArray) ++ x.doc)
    rw [hf]
    have e : s ++ queueT x = (s ++ x.list.foldl (fun s k => s ++ ((⟨#[32]⟩ : ByteArray) ++ baOf (numT k))) ((⟨#[113, 117, 101, 117, 101, 32]⟩ : ByteArray) ++ x.doc)) ++ ⟨#[10]⟩ := by
      unfold queueT
      rw [ByteArray.append_assoc]
    have hz : (s ++ queueT x).size ≤ s.size + 1200000000000 := by rw [ByteArray.size_append]; omega
    rw [e, ByteArray.size_append] at hz
    rw [xg_of (by omega), e]) s (by omega)
theorem s_queuesT (w : DWorld) (s : ByteArray) (hs : s.size ≤ 20000000000) (hl : w.queues.length ≤ 1048576) (h2 : ∀ q ∈ w.queues, q.doc.size ≤ 1099511627776 ∧ q.list.length ≤ 2) : eachN (x_spec_WorldText_f1 w) (fun (s : ByteArray) => (s : ByteArray)) w.queues.length 0 s = some (w.queues.foldl (fun s q => s ++ queueT q) s) :=
  each_fold (F := x_spec_WorldText_f1 w) (e := fun (s : ByteArray) => (s : ByteArray)) w.queues (fun _ k s => s.size ≤ 20000000000 + 1200000000000 * k) (fun s q => s ++ queueT q) (fun x r k s hk hx hP => by
    have hxx := h2 x (hx ▸ el_mem hk)
    have ht := queueT_size hxx.1 hxx.2
    refine ⟨?_, by rw [ByteArray.size_append]; omega⟩
    unfold x_spec_WorldText_f1 x_spec_WorldText_b1
    rw [hx, xg_of (by rw [z6]; omega), xg_of (by simp only [ByteArray.size_append, z6]; omega)]
    rw [each_fold (F := x_spec_WorldText_f2 w k) (e := fun (s : ByteArray) => (s : ByteArray)) x.list (fun _ j z => z.size ≤ s.size + x.doc.size + 6 + 1000000002 * j) (fun s k => s ++ ((⟨#[32]⟩ : ByteArray) ++ baOf (numT k))) (fun y q j z hj hy hQ => by
      have hn := numB_size y
      refine ⟨?_, by simp only [ByteArray.size_append, z1]; omega⟩
      unfold x_spec_WorldText_f2 x_spec_WorldText_b2
      rw [hx, hy, xg_of (by rw [z1]; omega), s_NumText, Option.bind_some, xg_of (by simp only [ByteArray.size_append, z1]; omega), ByteArray.append_assoc]) _ (by simp only [ByteArray.size_append, z6]; omega), Option.bind_some]
    have hf := fold_front (fun k : Int => (⟨#[32]⟩ : ByteArray) ++ baOf (numT k)) x.list s ((⟨#[113, 117, 101, 117, 101, 32]⟩ : ByteArray) ++ x.doc)
    rw [ByteArray.append_assoc, hf]
    have e : s ++ queueT x = (s ++ x.list.foldl (fun s k => s ++ ((⟨#[32]⟩ : ByteArray) ++ baOf (numT k))) ((⟨#[113, 117, 101, 117, 101, 32]⟩ : ByteArray) ++ x.doc)) ++ ⟨#[10]⟩ := by
      unfold queueT
      rw [ByteArray.append_assoc]
    have hz : (s ++ queueT x).size ≤ s.size + 1200000000000 := by rw [ByteArray.size_append]; omega
    rw [e, ByteArray.size_append] at hz
    rw [xg_of (by omega), e]) s (by omega)
noncomputable def taskT (t : DTask) : ByteArray := (x_impl_TaskText t).getD ByteArray.empty
theorem taskT_get (t : DTask) : x_impl_TaskText t = some (taskT t) ∧ x_spec_TaskText t = some (taskT t) ∧ (taskT t).size ≤ 1000 := by
  obtain ⟨r, h1, h2, h3⟩ := n_Task t
  have : taskT t = r := by unfold taskT; rw [h2]; rfl
  rw [this]
  exact ⟨h2, h1, h3⟩
theorem i_tasksT (w : DWorld) (s : ByteArray) (hs : s.size ≤ 4611686018427387904) (hl : w.tasks.length ≤ 10) : eachN (x_impl_WorldText_f3 w) (fun (s : ByteArray) => (s : ByteArray)) w.tasks.length 0 s = some (w.tasks.foldl (fun s t => s ++ (taskT t ++ ⟨#[10]⟩)) s) :=
  each_fold (F := x_impl_WorldText_f3 w) (e := fun (s : ByteArray) => (s : ByteArray)) w.tasks (fun _ k s => s.size ≤ 4611686018427387904 + 1001 * k) (fun s t => s ++ (taskT t ++ ⟨#[10]⟩)) (fun x r k s hk hx hP => by
    obtain ⟨h1, _, h3⟩ := taskT_get x
    refine ⟨?_, by simp only [ByteArray.size_append, z10]; omega⟩
    unfold x_impl_WorldText_f3 x_impl_WorldText_b3
    rw [hx]
    rw [h1, Option.bind_some, xg_of (by rw [z10]; omega), xg_of (by simp only [ByteArray.size_append, z10]; omega)]) s (by omega)
theorem s_tasksT (w : DWorld) (s : ByteArray) (hs : s.size ≤ 4611686018427387904) (hl : w.tasks.length ≤ 10) : eachN (x_spec_WorldText_f3 w) (fun (s : ByteArray) => (s : ByteArray)) w.tasks.length 0 s = some (w.tasks.foldl (fun s t => s ++ (taskT t ++ ⟨#[10]⟩)) s) :=
  each_fold (F := x_spec_WorldText_f3 w) (e := fun (s : ByteArray) => (s : ByteArray)) w.tasks (fun _ k s => s.size ≤ 4611686018427387904 + 1001 * k) (fun s t => s ++ (taskT t ++ ⟨#[10]⟩)) (fun x r k s hk hx hP => by
    obtain ⟨_, h2, h3⟩ := taskT_get x
    refine ⟨?_, by simp only [ByteArray.size_append, z10]; omega⟩
    unfold x_spec_WorldText_f3 x_spec_WorldText_b3
    rw [hx]
    rw [h2, Option.bind_some, xg_of (by omega), xg_of (by simp only [ByteArray.size_append, z10]; omega), ByteArray.append_assoc]) s (by omega)
noncomputable def worldT (w : DWorld) : ByteArray :=
  if okWorld w then w.tasks.foldl (fun s t => s ++ (taskT t ++ ⟨#[10]⟩)) (w.queues.foldl (fun s q => s ++ queueT q) (w.locks.foldl (fun s k => s ++ lockT k) (((⟨#[115, 116, 101, 112, 32]⟩ : ByteArray) ++ baOf (numT w.step)) ++ ⟨#[10]⟩))) else ⟨#[]⟩
theorem world_sizes {w : DWorld} (hm : smDWorld w) (hq : w.queues.length ≤ 1048576) (h : okWorld w = true) :
    ((((⟨#[115, 116, 101, 112, 32]⟩ : ByteArray) ++ baOf (numT w.step)) ++ ⟨#[10]⟩).size ≤ 10000000000 ∧ (w.locks.foldl (fun s k => s ++ lockT k) (((⟨#[115, 116, 101, 112, 32]⟩ : ByteArray) ++ baOf (numT w.step)) ++ ⟨#[10]⟩)).size ≤ 20000000000) ∧ (∀ q ∈ w.queues, q.doc.size ≤ 1099511627776 ∧ q.list.length ≤ 2) ∧ (w.queues.foldl (fun s q => s ++ queueT q) (w.locks.foldl (fun s k => s ++ lockT k) (((⟨#[115, 116, 101, 112, 32]⟩ : ByteArray) ++ baOf (numT w.step)) ++ ⟨#[10]⟩))).size ≤ 4611686018427387904 := by
  have hg := okWorld_get h
  have hn := numB_size w.step
  have e1 : (((⟨#[115, 116, 101, 112, 32]⟩ : ByteArray) ++ baOf (numT w.step)) ++ ⟨#[10]⟩).size ≤ 10000000000 := by simp only [ByteArray.size_append, z5', z10]; omega
  have e2 := fold_size lockT 1000000100 w.locks (((⟨#[115, 116, 101, 112, 32]⟩ : ByteArray) ++ baOf (numT w.step)) ++ ⟨#[10]⟩) (fun x _ => lockT_size x)
  have e3 : 1000000100 * w.locks.length ≤ 1000000100 * 4 := Nat.mul_le_mul_left _ hg.2.1.2
  have e4 : ∀ q ∈ w.queues, q.doc.size ≤ 1099511627776 ∧ q.list.length ≤ 2 := fun q hx => ⟨(hm.2.2.1.2 q hx).1, okWorld_two h q hx⟩
  have e5 := fold_size queueT 1200000000000 w.queues (w.locks.foldl (fun s k => s ++ lockT k) (((⟨#[115, 116, 101, 112, 32]⟩ : ByteArray) ++ baOf (numT w.step)) ++ ⟨#[10]⟩)) (fun x hx => queueT_size (e4 x hx).1 (e4 x hx).2)
  have e6 : 1200000000000 * w.queues.length ≤ 1200000000000 * 1048576 := Nat.mul_le_mul_left _ hq
  exact ⟨⟨e1, by omega⟩, e4, by omega⟩
theorem i_WorldText (w : DWorld) (hm : smDWorld w) (hq : w.queues.length ≤ 1048576) : x_impl_WorldText w = some (worldT w) := by
  unfold x_impl_WorldText worldT
  rw [i_WorldOk w hm hq, Option.bind_some]
  cases h : okWorld w with
  | false => rfl
  | true =>
    have hg := okWorld_get h
    obtain ⟨⟨e1, e2⟩, e3, e4⟩ := world_sizes hm hq h
    have hn := numB_size w.step
    simp only [Bool.not_true, cond_false, if_true]
    rw [i_NumText, Option.bind_some, xg_of (by rw [z5']; omega), xg_of (by simp only [ByteArray.size_append, z5', z10]; omega), i_locksT w _ e1 hg.2.1.2, Option.bind_some, i_queuesT w _ e2 hq e3, Option.bind_some, i_tasksT w _ e4 hg.2.2.1, Option.bind_some]
theorem s_WorldText (w : DWorld) (hm : smDWorld w) (hq : w.queues.length ≤ 1048576) : x_spec_WorldText w = some (worldT w) := by
  unfold x_spec_WorldText worldT
  rw [s_WorldOk w hm hq, Option.bind_some]
  cases h : okWorld w with
  | false => rfl
  | true =>
    have hg := okWorld_get h
    obtain ⟨⟨e1, e2⟩, e3, e4⟩ := world_sizes hm hq h
    have hn := numB_size w.step
    simp only [Bool.not_true, cond_false, if_true]
    rw [s_NumText, Option.bind_some, xg_of (by rw [z5']; omega), xg_of (by simp only [ByteArray.size_append, z5', z10]; omega), s_locksT w _ e1 hg.2.1.2, Option.bind_some, s_queuesT w _ e2 hq e3, Option.bind_some, s_tasksT w _ e4 hg.2.2.1, Option.bind_some]
theorem ex_FnExactWorldText (w : DWorld) (_ : wfDWorld w) (h : szDWorld w ≤ 1048576) : ∃ r, x_spec_WorldText w = some r ∧ x_impl_WorldText w = some r := by
  have hm := smz_DWorld w (by omega)
  have hq : w.queues.length ≤ 1048576 := by
    unfold szDWorld at h
    have : w.queues.length ≤ lenL szDQueue w.queues := by rw [lenL_eq]; omega
    omega
  exact ⟨_, s_WorldText w hm hq, i_WorldText w hm hq⟩
end Go.Proofs.YtjbonmmmcnpjiaaGreatDoor
