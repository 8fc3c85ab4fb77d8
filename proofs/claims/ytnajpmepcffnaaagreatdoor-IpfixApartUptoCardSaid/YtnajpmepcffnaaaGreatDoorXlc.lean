/- The program's contracts: texts joined into one: IpK IpL IpM IpN IpO Brk IpP LawIp1 LawIp2 LawIp3 LawIp4 ArgsIp. -/
import Derived.Test.YtnajpmepcffnaaaGreatDoorXlb
import Derived.Test.YtnajpmepcffnaaaGreatDoorXvc
import Derived.Test.YtnajpmepcffnaaaGreatDoorXvb

section
/- ipfix: Message. -/
namespace Go.Proofs.YtnajpmepcffnaaaGreatDoor
open Go.Ve

def bll (l : List Bs) : List (List AV) := l.map fun b => [.sl (bcl b)]
theorem bll_len (l : List Bs) : (bll l).length = l.length := List.length_map ..
theorem bll_get {l : List Bs} {i : Nat} {b : Bs} (h : l[i]? = some b) : (bll l)[(i : Int).toNat]? = some [.sl (bcl b)] := by
  rw [Int.toNat_natCast, bll, List.getElem?_map, h]; rfl
def hhv (h : Hh) : AV := .agg [.int .u32 (h.time : Int), .int .u32 (h.seq : Int), .int .u32 (h.dom : Int), .int .i64 h.lost, .int .i64 h.idle]
structure HhOk (h : Hh) : Prop where
  time : h.time < 4294967296
  seq : h.seq < 4294967296
  dom : h.dom < 4294967296
def hBox (h : Hh) : Ob := .box 29 [.int .u32 (h.time : Int), .int .u32 (h.seq : Int), .int .u32 (h.dom : Int), .int .i64 h.lost, .int .i64 h.idle]
theorem flat_take {l : List Bs} {i : Nat} {b : Bs} (h : l[i]? = some b) : (l.take (i + 1)).flatten = (l.take i).flatten ++ b := by
  have hi := (List.getElem?_eq_some_iff.1 h).1
  rw [List.take_add_one, h, List.flatten_append]
  show _ ++ (b ++ []) = _
  rw [List.append_nil]
theorem flat_le : ∀ (l : List Bs) (i : Nat), (l.take i).flatten.length ≤ l.flatten.length
  | [], i => by rw [List.take_nil]; exact Nat.le_refl _
  | x :: r, 0 => Nat.zero_le _
  | x :: r, i + 1 => by
    rw [List.take_succ_cons, List.flatten_cons, List.flatten_cons, List.length_append, List.length_append]
    have := flat_le r i
    omega
set_option maxHeartbeats 4000000 in
theorem message_ok (h : Hh) (hh : HhOk h) (l : List Bs) (hl : l.length ≤ 1000000000) (hn : 16 + l.flatten.length ≤ 65535) : DCall P 13 [hhv h, .sl (bll l)] [] (.tup [.sl (bcl (msgB h l.flatten)), .int .i64 0]) [] := by
  have hbl := bll_len l
  obtain ⟨h1, h2, h3⟩ := hh
  refine DCall.of_awp tok mixed fn13 (Nat.le_of_ble_eq_true rfl) ?_
  (conv => whnf); repeat' ((with_reducible refine Box.mk ?_) <;> conv => whnf)
  refine aloop (fun i : Nat => i ≤ l.length) (fun i => ⟨envL [(1, .sl (bll l)), (2, .ptr 0 0), (6, .int .i64 ((16 + (l.take i).flatten.length : Nat) : Int)), (12, .sl (bll l)), (13, .int .i64 ((bll l).length : Int)), (14, .int .i64 (i : Int))], [hBox h]⟩) (fun i => l.length - i) 0 (Nat.zero_le _) (weak_ren_to [(0, true)] rfl rfl rfl ⟨rfl, rfl, rfl, rfl, rfl, rfl, trivial⟩) ?_
  rintro i hi
  by_cases hlt : i < l.length
  · have hx := List.getElem?_eq_getElem hlt
    have hft := flat_take hx
    generalize l[i] = b at *
    have hbb := bcl_len b
    have hfl : (l.take (i + 1)).flatten.length = (l.take i).flatten.length + b.length := by rw [hft, List.length_append]
    have hle := flat_le l (i + 1)
    (conv => whnf); (repeat' ((with_reducible first | refine Box.mk ?_ | refine And.intro (fun _ => ?_) (fun _ => ?_) | fail) <;> conv => whnf))
    rotate_left
    · exfalso; rename_i h; have h : ¬ (i : Int) < ((bll l).length : Int) := h; omega
    refine ⟨by omega, [.sl (bcl b)], bll_get hx, rfl, ?_⟩
    (conv => whnf); (repeat' ((with_reducible first | refine Box.mk ?_ | refine And.intro (fun _ => ?_) (fun _ => ?_) | fail) <;> conv => whnf))
    · exfalso
      rename_i h2
      rw [wrap_i64 (by omega) (by omega)] at h2
      omega
    · refine ⟨i + 1, hlt, by omega, weak_ren_to [(0, true)] rfl rfl rfl ⟨rfl, rfl, ?_, rfl, rfl, wrap_nat (m := 1) (by omega), trivial⟩⟩
      show AV.int .i64 (IntKind.i64.wrap _) = _
      rw [wrap_i64 (by omega) (by omega)]
      exact congrArg (AV.int .i64) (by omega)
  · have : i = l.length := by omega
    subst this
    rw [List.take_length]
    have a0 := wNumN 10 2
    rw [show szN 2 = 2 from rfl] at a0
    have l0 := numB_len 10 2
    generalize hx0 : numB 10 2 = x0 at *
    have a1 := wNumR x0 (by omega) (16 + l.flatten.length) 2
    rw [show szN 2 = 2 from rfl] at a1
    have l1 := numB_len (16 + l.flatten.length) 2
    have m1 : (x0 ++ numB (16 + l.flatten.length) 2).length = 4 := by rw [List.length_append]; omega
    generalize hx1 : x0 ++ numB (16 + l.flatten.length) 2 = x1 at *
    have a2 := wNumR x1 (by omega) h.time 4
    rw [show szN 4 = 4 from rfl] at a2
    have l2 := numB_len h.time 4
    have m2 : (x1 ++ numB h.time 4).length = 8 := by rw [List.length_append]; omega
    generalize hx2 : x1 ++ numB h.time 4 = x2 at *
    have a3 := wNumR x2 (by omega) h.seq 4
    rw [show szN 4 = 4 from rfl] at a3
    have l3 := numB_len h.seq 4
    have m3 : (x2 ++ numB h.seq 4).length = 12 := by rw [List.length_append]; omega
    generalize hx3 : x2 ++ numB h.seq 4 = x3 at *
    have a4 := wNumR x3 (by omega) h.dom 4
    rw [show szN 4 = 4 from rfl] at a4
    have l4 := numB_len h.dom 4
    have m4 : (x3 ++ numB h.dom 4).length = 16 := by rw [List.length_append]; omega
    generalize hx4 : x3 ++ numB h.dom 4 = x4 at *
    have w1 : IntKind.u64.wrap ((16 + l.flatten.length : Nat) : Int) = ((16 + l.flatten.length : Nat) : Int) := wrap_u64 (by omega) (by omega)
    have w2 : IntKind.u64.wrap (h.time : Int) = (h.time : Int) := wrap_u64 (by omega) (by omega)
    have w3 : IntKind.u64.wrap (h.seq : Int) = (h.seq : Int) := wrap_u64 (by omega) (by omega)
    have w4 : IntKind.u64.wrap (h.dom : Int) = (h.dom : Int) := wrap_u64 (by omega) (by omega)
    have hfin : msgB h l.flatten = x4 ++ l.flatten := by
      unfold msgB
      rw [← hx4, ← hx3, ← hx2, ← hx1, ← hx0]
      simp only [List.append_assoc]
    rw [hfin]
    (conv => whnf); (repeat' ((with_reducible first | refine Box.mk ?_ | refine And.intro (fun _ => ?_) (fun _ => ?_) | fail) <;> conv => whnf))
    · exfalso; rename_i h; have h : ((l.length : Nat) : Int) < ((bll l).length : Int) := h; omega
    refine ⟨[(2000, []), (2003, []), (2007, []), (2011, []), (2015, []), (3002, [0]), (3005, [0, 3]), (3006, [0, 3]), (3009, [0, 3, 7]), (3010, [0, 3, 7]), (3013, [0, 3, 7, 11]), (3014, [0, 3, 7, 11])], by kernel_rfl, ?_⟩
    (conv => whnf); (repeat' ((with_reducible first | refine Box.mk ?_ | refine And.intro (fun _ => ?_) (fun _ => ?_) | refine (forceH_eq _ _).mpr ?_ | fail) <;> conv => whnf))
    refine aDw [1] a0 rfl rfl rfl ?_
    (conv => whnf); repeat' ((with_reducible refine Box.mk ?_) <;> conv => whnf)
    (refine And.intro ?_ ?_); (focus ((conv => whnf); (repeat' first | exact trivial | ((refine And.intro ?_ ?_); (focus ((conv => whnf); (first | exact ⟨rfl, rfl⟩ | exact ⟨by decide, by decide, rfl, rfl⟩ | exact ⟨by omega, by omega, rfl, rfl⟩ | exact ⟨by (simp only [List.length_drop, List.length_take]; omega), rfl, rfl⟩ | exact ⟨_, rfl, rfl, rfl⟩ | exact ⟨by omega, _, by assumption, rfl, rfl, rfl⟩ | ((refine ACall.of_pure (by assumption) (by rfl) ?_); (refine And.intro ?_ ?_ <;> rfl))))); (conv => whnf)))))
    (conv => whnf); repeat' ((with_reducible refine Box.mk ?_) <;> conv => whnf)
    rw [w1]
    refine aDw [1, 2] a1 rfl rfl rfl ?_
    (conv => whnf); repeat' ((with_reducible refine Box.mk ?_) <;> conv => whnf)
    (refine And.intro ?_ ?_); (focus ((conv => whnf); (repeat' first | exact trivial | ((refine And.intro ?_ ?_); (focus ((conv => whnf); (first | exact ⟨rfl, rfl⟩ | exact ⟨by decide, by decide, rfl, rfl⟩ | exact ⟨by omega, by omega, rfl, rfl⟩ | exact ⟨by (simp only [List.length_drop, List.length_take]; omega), rfl, rfl⟩ | exact ⟨_, rfl, rfl, rfl⟩ | exact ⟨by omega, _, by assumption, rfl, rfl, rfl⟩ | ((refine ACall.of_pure (by assumption) (by rfl) ?_); (refine And.intro ?_ ?_ <;> rfl))))); (conv => whnf)))))
    (conv => whnf); repeat' ((with_reducible refine Box.mk ?_) <;> conv => whnf)
    (refine And.intro ?_ ?_); (focus ((conv => whnf); (repeat' first | exact trivial | ((refine And.intro ?_ ?_); (focus ((conv => whnf); (first | exact ⟨rfl, rfl⟩ | exact ⟨by decide, by decide, rfl, rfl⟩ | exact ⟨by omega, by omega, rfl, rfl⟩ | exact ⟨by (simp only [List.length_drop, List.length_take]; omega), rfl, rfl⟩ | exact ⟨_, rfl, rfl, rfl⟩ | exact ⟨by omega, _, by assumption, rfl, rfl, rfl⟩ | ((refine ACall.of_pure (by assumption) (by rfl) ?_); (refine And.intro ?_ ?_ <;> rfl))))); (conv => whnf)))))
    (conv => whnf); repeat' ((with_reducible refine Box.mk ?_) <;> conv => whnf)
    rw [w2]
    refine aDw [1, 3] a2 rfl rfl rfl ?_
    (conv => whnf); repeat' ((with_reducible refine Box.mk ?_) <;> conv => whnf)
    (refine And.intro ?_ ?_); (focus ((conv => whnf); (repeat' first | exact trivial | ((refine And.intro ?_ ?_); (focus ((conv => whnf); (first | exact ⟨rfl, rfl⟩ | exact ⟨by decide, by decide, rfl, rfl⟩ | exact ⟨by omega, by omega, rfl, rfl⟩ | exact ⟨by (simp only [List.length_drop, List.length_take]; omega), rfl, rfl⟩ | exact ⟨_, rfl, rfl, rfl⟩ | exact ⟨by omega, _, by assumption, rfl, rfl, rfl⟩ | ((refine ACall.of_pure (by assumption) (by rfl) ?_); (refine And.intro ?_ ?_ <;> rfl))))); (conv => whnf)))))
    (conv => whnf); repeat' ((with_reducible refine Box.mk ?_) <;> conv => whnf)
    (refine And.intro ?_ ?_); (focus ((conv => whnf); (repeat' first | exact trivial | ((refine And.intro ?_ ?_); (focus ((conv => whnf); (first | exact ⟨rfl, rfl⟩ | exact ⟨by decide, by decide, rfl, rfl⟩ | exact ⟨by omega, by omega, rfl, rfl⟩ | exact ⟨by (simp only [List.length_drop, List.length_take]; omega), rfl, rfl⟩ | exact ⟨_, rfl, rfl, rfl⟩ | exact ⟨by omega, _, by assumption, rfl, rfl, rfl⟩ | ((refine ACall.of_pure (by assumption) (by rfl) ?_); (refine And.intro ?_ ?_ <;> rfl))))); (conv => whnf)))))
    (conv => whnf); repeat' ((with_reducible refine Box.mk ?_) <;> conv => whnf)
    rw [w3]
    refine aDw [1, 4] a3 rfl rfl rfl ?_
    (conv => whnf); repeat' ((with_reducible refine Box.mk ?_) <;> conv => whnf)
    (refine And.intro ?_ ?_); (focus ((conv => whnf); (repeat' first | exact trivial | ((refine And.intro ?_ ?_); (focus ((conv => whnf); (first | exact ⟨rfl, rfl⟩ | exact ⟨by decide, by decide, rfl, rfl⟩ | exact ⟨by omega, by omega, rfl, rfl⟩ | exact ⟨by (simp only [List.length_drop, List.length_take]; omega), rfl, rfl⟩ | exact ⟨_, rfl, rfl, rfl⟩ | exact ⟨by omega, _, by assumption, rfl, rfl, rfl⟩ | ((refine ACall.of_pure (by assumption) (by rfl) ?_); (refine And.intro ?_ ?_ <;> rfl))))); (conv => whnf)))))
    (conv => whnf); repeat' ((with_reducible refine Box.mk ?_) <;> conv => whnf)
    (refine And.intro ?_ ?_); (focus ((conv => whnf); (repeat' first | exact trivial | ((refine And.intro ?_ ?_); (focus ((conv => whnf); (first | exact ⟨rfl, rfl⟩ | exact ⟨by decide, by decide, rfl, rfl⟩ | exact ⟨by omega, by omega, rfl, rfl⟩ | exact ⟨by (simp only [List.length_drop, List.length_take]; omega), rfl, rfl⟩ | exact ⟨_, rfl, rfl, rfl⟩ | exact ⟨by omega, _, by assumption, rfl, rfl, rfl⟩ | ((refine ACall.of_pure (by assumption) (by rfl) ?_); (refine And.intro ?_ ?_ <;> rfl))))); (conv => whnf)))))
    (conv => whnf); repeat' ((with_reducible refine Box.mk ?_) <;> conv => whnf)
    rw [w4]
    refine aDw [1, 5] a4 rfl rfl rfl ?_
    (conv => whnf); repeat' ((with_reducible refine Box.mk ?_) <;> conv => whnf)
    refine aloop (fun i : Nat => i ≤ l.length) (fun i => ⟨envL [(9, .ptr 0 0), (44, .sl (bll l)), (45, .int .i64 ((bll l).length : Int)), (46, .int .i64 (i : Int))], wR (x4 ++ (l.take i).flatten)⟩) (fun i => l.length - i) 0 (Nat.zero_le _) (weak_ren_to [(1, true), (6, true)] rfl rfl (by show _ = wR (x4 ++ []); rw [List.append_nil]; rfl) ⟨rfl, rfl, rfl, rfl, trivial⟩) ?_
    rintro i hi
    have hle := flat_le l i
    have hxl : (x4 ++ (l.take i).flatten).length ≤ 70000 := by rw [List.length_append]; omega
    by_cases hlt : i < l.length
    · have hx := List.getElem?_eq_getElem hlt
      have hft := flat_take hx
      generalize l[i] = b at *
      have hle2 := flat_le l (i + 1)
      have hfl : (l.take (i + 1)).flatten.length = (l.take i).flatten.length + b.length := by rw [hft, List.length_append]
      have a5 := wRawR (x4 ++ (l.take i).flatten) (by omega) b (by omega)
      rw [List.append_assoc, ← hft] at a5
      (conv => whnf); (repeat' ((with_reducible first | refine Box.mk ?_ | refine And.intro (fun _ => ?_) (fun _ => ?_) | fail) <;> conv => whnf))
      rotate_left
      · exfalso; rename_i h; have h : ¬ (i : Int) < ((bll l).length : Int) := h; omega
      refine ⟨by omega, [.sl (bcl b)], bll_get hx, rfl, ?_⟩
      (conv => whnf); repeat' ((with_reducible refine Box.mk ?_) <;> conv => whnf)
      refine aW [0, 1] a5 rfl rfl rfl ?_
      (conv => whnf); repeat' ((with_reducible refine Box.mk ?_) <;> conv => whnf)
      exact ⟨i + 1, hlt, by omega, weak_ren_to [(0, true), (2, true)] rfl rfl rfl ⟨rfl, rfl, rfl, wrap_nat (m := 1) (by omega), trivial⟩⟩
    · have : i = l.length := by omega
      subst this
      rw [List.take_length] at *
      have a6 := wBytesR (x4 ++ l.flatten) (by omega)
      (conv => whnf); (repeat' ((with_reducible first | refine Box.mk ?_ | refine And.intro (fun _ => ?_) (fun _ => ?_) | fail) <;> conv => whnf))
      · exfalso; rename_i h; have h : ((l.length : Nat) : Int) < ((bll l).length : Int) := h; omega
      refine aW [0, 1] a6 rfl rfl rfl ?_
      (conv => whnf); repeat' ((with_reducible refine Box.mk ?_) <;> conv => whnf)
      exact weak_ren_to [] rfl rfl rfl ⟨rfl, trivial⟩
end Go.Proofs.YtnajpmepcffnaaaGreatDoor
end

section
/- ipfix: Templates of one, Data of one, Withdraw of one. -/
namespace Go.Proofs.YtnajpmepcffnaaaGreatDoor
open Go.Ve

def specsB (fs : List Sc) : Bs := (fs.map specB).flatten
theorem specsB_len : ∀ (fs : List Sc), (specsB fs).length ≤ 8 * fs.length
  | [] => Nat.le_refl _
  | s :: r => by
    have h1 := specsB_len r
    have h2 := specB_len s
    show (specB s ++ specsB r).length ≤ _
    rw [List.length_append, List.length_cons]; omega
theorem specsB_take {fs : List Sc} {i : Nat} {s : Sc} (h : fs[i]? = some s) : specsB (fs.take (i + 1)) = specsB (fs.take i) ++ specB s := by
  unfold specsB
  rw [List.take_add_one, h, List.map_append, List.flatten_append]
  show _ ++ (specB s ++ []) = _
  rw [List.append_nil]
def tmplB (i : Nat) (fs : List Sc) : Bs := numB i 2 ++ numB fs.length 2 ++ specsB fs
theorem tmplB_len (i : Nat) (fs : List Sc) : (tmplB i fs).length ≤ 4 + 8 * fs.length := by
  have := specsB_len fs
  unfold tmplB
  rw [List.length_append, List.length_append, numB_len, numB_len]; omega
theorem templates_nil : DCall P 27 [.nils] [] (.tup [.nils, .int .i64 1]) [] := by
  refine DCall.of_awp tok mixed fn27 (Nat.le_of_ble_eq_true rfl) ?_
  (conv => whnf); (repeat' ((with_reducible first | refine Box.mk ?_ | refine And.intro (fun _ => ?_) (fun _ => ?_) | fail) <;> conv => whnf))
  all_goals try contradiction
  exact weak_ren_to [] rfl rfl rfl ⟨rfl, trivial⟩
set_option maxHeartbeats 4000000 in
theorem templates_one (i : Nat) (fs : List Sc) (hr : rightT ⟨(i : Int), 0, fs⟩ = true) (hi : i < 65536) (he : ∀ s ∈ fs, EntOk s) : DCall P 27 [.sl [tcs ⟨(i : Int), 0, fs⟩]] [] (.tup [.sl (bcl (frameB 2 (tmplB i fs))), .int .i64 0]) [] := by
  obtain ⟨r1, r2, r3⟩ := right_all hr
  have r1 : 1 ≤ fs.length := r1
  have r2 : fs.length ≤ 64 := r2
  have q1 := cRight_ok ⟨(i : Int), 0, fs⟩ (by omega)
  rw [hr] at q1
  have hfl := scl_len fs
  have hsl := fun k => specsB_len (fs.take k)
  have htl := tmplB_len i fs
  have wid : IntKind.u64.wrap (i : Int) = i := wrap_u64 (by omega) (by omega)
  have wn : IntKind.u64.wrap (fs.length : Int) = fs.length := wrap_u64 (by omega) (by omega)
  have a1 := wNumN i 2
  rw [show szN 2 = 2 from rfl] at a1
  have l1 := numB_len i 2
  have a2 := wNumR (numB i 2) (by omega) fs.length 2
  rw [show szN 2 = 2 from rfl] at a2
  have l2 : (numB i 2 ++ numB fs.length 2).length = 4 := by rw [List.length_append, numB_len, numB_len]
  have a9 := wBytesR (tmplB i fs) (by omega)
  have af := framed_ok 2 (by decide) (tmplB i fs) (by omega)
  have htb : tmplB i fs = numB i 2 ++ numB fs.length 2 ++ specsB fs := rfl
  generalize tmplB i fs = tb at *
  generalize hpre : numB i 2 ++ numB fs.length 2 = pre at *
  generalize numB i 2 = x1 at *
  refine DCall.of_awp tok mixed fn27 (Nat.le_of_ble_eq_true rfl) ?_
  (conv => whnf); (repeat' ((with_reducible first | refine Box.mk ?_ | refine And.intro (fun _ => ?_) (fun _ => ?_) | fail) <;> conv => whnf))
  · rename_i h; exact absurd (show (1 : Int) = 0 from h) (by decide)
  refine ⟨[], by kernel_rfl, ?_⟩
  (conv => whnf); repeat' ((with_reducible refine Box.mk ?_) <;> conv => whnf)
  refine ⟨by decide, tcs ⟨(i : Int), 0, fs⟩, rfl, rfl, ?_⟩
  (conv => whnf); (repeat' ((with_reducible first | refine Box.mk ?_ | refine And.intro (fun _ => ?_) (fun _ => ?_) | fail) <;> conv => whnf))
  · rename_i h; exact absurd (show (0 : Int) < 0 from h) (by decide)
  refine aloop (fun k : Nat => k ≤ 1) (fun k => ⟨envL [(0, .sl [tcs ⟨(i : Int), 0, fs⟩]), (4, .ptr 0 0), (5, .bool true), (6, .bool false), (22, .sl [tcs ⟨(i : Int), 0, fs⟩]), (23, .int .i64 1), (24, .int .i64 (k : Int))], wN⟩) (fun k => 1 - k) 0 (Nat.zero_le _) (weak_ren_to [(0, true)] rfl rfl rfl ⟨rfl, rfl, rfl, rfl, rfl, rfl, rfl, trivial⟩) ?_
  intro k hk
  match k, hk with
  | 0, _ =>
    (conv => whnf); (repeat' ((with_reducible first | refine Box.mk ?_ | refine And.intro (fun _ => ?_) (fun _ => ?_) | fail) <;> conv => whnf))
    rotate_left
    · rename_i h; exact absurd (show ¬ (0 : Int) < 1 from h) (by decide)
    refine ⟨by decide, tcs ⟨(i : Int), 0, fs⟩, rfl, rfl, ?_⟩
    (conv => whnf); (repeat' ((first | (with_reducible first | refine Box.mk ?_ | refine And.intro (fun _ => ?_) (fun _ => ?_) | fail) | ((with_reducible show ACall _ _ _ _ _); refine ACall.of_pure (by assumption) (by rfl) ?_) | fail) <;> conv => whnf))
    all_goals try (exfalso; rename_i h1 h2; first | exact absurd (show (0 : Int) < 0 from h1) (by decide) | exact h2 rfl | exact absurd h2 (by decide))
    exact ⟨1, Nat.le_refl _, by omega, weak_ren_to [(0, true)] rfl rfl rfl ⟨rfl, rfl, rfl, rfl, rfl, rfl, wrap_nat (n := 0) (m := 1) (by omega), trivial⟩⟩
  | 1, _ =>
    (conv => whnf); (repeat' ((with_reducible first | refine Box.mk ?_ | refine And.intro (fun _ => ?_) (fun _ => ?_) | fail) <;> conv => whnf))
    · rename_i h; exact absurd (show (1 : Int) < 1 from h) (by decide)
    refine aloop (fun k : Nat => k ≤ 1) (fun k => ⟨envL [(4, .ptr 0 0), (6, .bool false), (9, .int .i64 2), (41, .sl [tcs ⟨(i : Int), 0, fs⟩]), (42, .int .i64 1), (43, .int .i64 (k : Int))], bif Nat.beq k 0 then wN else wR tb⟩) (fun k => 1 - k) 0 (Nat.zero_le _) (weak_ren_to [(0, true)] rfl rfl rfl ⟨rfl, rfl, rfl, rfl, rfl, rfl, trivial⟩) ?_
    intro k hk
    match k, hk with
    | 0, _ =>
      (conv => whnf); (repeat' ((with_reducible first | refine Box.mk ?_ | refine And.intro (fun _ => ?_) (fun _ => ?_) | fail) <;> conv => whnf))
      rotate_left
      · rename_i h; exact absurd (show ¬ (0 : Int) < 1 from h) (by decide)
      refine ⟨by decide, tcs ⟨(i : Int), 0, fs⟩, rfl, rfl, ?_⟩
      (conv => whnf); repeat' ((with_reducible refine Box.mk ?_) <;> conv => whnf)
      refine ⟨[(2003, []), (2008, []), (3005, [3]), (3007, [3]), (3006, [3])], by kernel_rfl, ?_⟩
      (conv => whnf); repeat' ((with_reducible refine Box.mk ?_) <;> conv => whnf)
      rw [wid]
      refine aDw [0] a1 rfl rfl rfl ?_
      (conv => whnf); repeat' ((with_reducible refine Box.mk ?_) <;> conv => whnf)
      (refine And.intro ?_ ?_); (focus ((conv => whnf); (repeat' first | exact trivial | ((refine And.intro ?_ ?_); (focus ((conv => whnf); (first | exact ⟨rfl, rfl⟩ | exact ⟨by decide, by decide, rfl, rfl⟩ | exact ⟨by omega, by omega, rfl, rfl⟩ | exact ⟨by (simp only [List.length_drop, List.length_take]; omega), rfl, rfl⟩ | exact ⟨_, rfl, rfl, rfl⟩ | exact ⟨by omega, _, by assumption, rfl, rfl, rfl⟩ | ((refine ACall.of_pure (by assumption) (by rfl) ?_); (refine And.intro ?_ ?_ <;> rfl))))); (conv => whnf)))))
      (conv => whnf); repeat' ((with_reducible refine Box.mk ?_) <;> conv => whnf)
      (refine And.intro ?_ ?_); (focus ((conv => whnf); (repeat' first | exact trivial | ((refine And.intro ?_ ?_); (focus ((conv => whnf); (first | exact ⟨rfl, rfl⟩ | exact ⟨by decide, by decide, rfl, rfl⟩ | exact ⟨by omega, by omega, rfl, rfl⟩ | exact ⟨by (simp only [List.length_drop, List.length_take]; omega), rfl, rfl⟩ | exact ⟨_, rfl, rfl, rfl⟩ | exact ⟨by omega, _, by assumption, rfl, rfl, rfl⟩ | ((refine ACall.of_pure (by assumption) (by rfl) ?_); (refine And.intro ?_ ?_ <;> rfl))))); (conv => whnf)))))
      (conv => whnf); repeat' ((with_reducible refine Box.mk ?_) <;> conv => whnf)
      (refine And.intro ?_ ?_); (focus ((conv => whnf); (repeat' first | exact trivial | ((refine And.intro ?_ ?_); (focus ((conv => whnf); (first | exact ⟨rfl, rfl⟩ | exact ⟨by decide, by decide, rfl, rfl⟩ | exact ⟨by omega, by omega, rfl, rfl⟩ | exact ⟨by (simp only [List.length_drop, List.length_take]; omega), rfl, rfl⟩ | exact ⟨_, rfl, rfl, rfl⟩ | exact ⟨by omega, _, by assumption, rfl, rfl, rfl⟩ | ((refine ACall.of_pure (by assumption) (by rfl) ?_); (refine And.intro ?_ ?_ <;> rfl))))); (conv => whnf)))))
      (conv => whnf); repeat' ((with_reducible refine Box.mk ?_) <;> conv => whnf)
      rw [hfl, wn]
      refine aDw [0, 2] a2 rfl rfl rfl ?_
      (conv => whnf); repeat' ((with_reducible refine Box.mk ?_) <;> conv => whnf)
      refine aloop (fun j : Nat => j ≤ fs.length) (fun j => ⟨envL [(4, .ptr 0 0), (6, .bool false), (9, .int .i64 2), (41, .sl [tcs ⟨(i : Int), 0, fs⟩]), (42, .int .i64 1), (43, .int .i64 0), (62, .sl (scl fs)), (63, .int .i64 ((scl fs).length : Int)), (64, .int .i64 (j : Int))], wR (pre ++ specsB (fs.take j))⟩) (fun j => fs.length - j) 0 (Nat.zero_le _)
        (weak_ren_to [(0, true), (3, true)] rfl rfl (by show _ = wR (pre ++ []); rw [List.append_nil]; rfl) ⟨rfl, rfl, rfl, rfl, rfl, rfl, rfl, rfl, rfl, trivial⟩) ?_
      intro j hj
      by_cases hlt : j < fs.length
      · have hx := List.getElem?_eq_getElem hlt
        have hst := specsB_take hx
        have hes := he _ (List.mem_of_getElem? hx)
        generalize fs[j] = s at *
        have hsj := hsl j
        have a5 := fWriteR (pre ++ specsB (fs.take j)) (by rw [List.length_append]; rw [List.length_take] at hsj; omega) s hes
        rw [List.append_assoc, ← hst] at a5
        (conv => whnf); (repeat' ((with_reducible first | refine Box.mk ?_ | refine And.intro (fun _ => ?_) (fun _ => ?_) | fail) <;> conv => whnf))
        rotate_left
        · exfalso; rename_i h; have h : ¬ (j : Int) < ((scl fs).length : Int) := h; omega
        refine ⟨by omega, scc s, scl_get hx, rfl, ?_⟩
        (conv => whnf); repeat' ((with_reducible refine Box.mk ?_) <;> conv => whnf)
        refine aW [0, 1] a5 rfl rfl rfl ?_
        (conv => whnf); repeat' ((with_reducible refine Box.mk ?_) <;> conv => whnf)
        exact ⟨j + 1, hlt, by omega, weak_ren_to [(0, true), (3, true)] rfl rfl rfl ⟨rfl, rfl, rfl, rfl, rfl, rfl, rfl, rfl, wrap_nat (m := 1) (by omega), trivial⟩⟩
      · have : j = fs.length := by omega
        subst this
        rw [List.take_length, ← htb]
        (conv => whnf); (repeat' ((with_reducible first | refine Box.mk ?_ | refine And.intro (fun _ => ?_) (fun _ => ?_) | fail) <;> conv => whnf))
        · exfalso; rename_i h; have h : ((fs.length : Nat) : Int) < ((scl fs).length : Int) := h; omega
        exact ⟨1, Nat.le_refl _, by omega, weak_ren_to [(0, true), (1, true)] rfl rfl rfl ⟨rfl, rfl, rfl, rfl, rfl, wrap_nat (n := 0) (m := 1) (by omega), trivial⟩⟩
    | 1, _ =>
      (conv => whnf); (repeat' ((with_reducible first | refine Box.mk ?_ | refine And.intro (fun _ => ?_) (fun _ => ?_) | fail) <;> conv => whnf))
      · rename_i h; exact absurd (show (1 : Int) < 1 from h) (by decide)
      refine aW [0, 1] a9 rfl rfl rfl ?_
      (conv => whnf); repeat' ((with_reducible refine Box.mk ?_) <;> conv => whnf)
      refine aW [] af rfl rfl rfl ?_
      (conv => whnf); repeat' ((with_reducible refine Box.mk ?_) <;> conv => whnf)
      exact weak_ren_to [] rfl rfl rfl ⟨rfl, trivial⟩
end Go.Proofs.YtnajpmepcffnaaaGreatDoor
end

section
/- ipfix: Data of one, Withdraw of one. -/
namespace Go.Proofs.YtnajpmepcffnaaaGreatDoor
open Go.Ve

def putsB (fs : List Sc) (r : Rc) : Bs := (fs.map fun s => putB s (ofR r s)).flatten
theorem putsB_take {fs : List Sc} {r : Rc} {i : Nat} {s : Sc} (h : fs[i]? = some s) : putsB (fs.take (i + 1)) r = putsB (fs.take i) r ++ putB s (ofR r s) := by
  unfold putsB
  rw [List.take_add_one, h, List.map_append, List.flatten_append]
  show _ ++ (putB s (ofR r s) ++ []) = _
  rw [List.append_nil]
theorem putsB_len (r : Rc) : ∀ (fs : List Sc), (putsB fs r).length ≤ 65540 * fs.length
  | [] => Nat.le_refl _
  | s :: l => by
    have h1 := putsB_len r l
    have h2 := putB_len s (ofR r s)
    show (putB s (ofR r s) ++ putsB l r).length ≤ _
    rw [List.length_append, List.length_cons]; omega
set_option maxHeartbeats 4000000 in
theorem data_one (i : Nat) (fs : List Sc) (r : Rc) (hr : rightT ⟨(i : Int), 0, fs⟩ = true) (hi : i < 65536) (h0 : r.p0.path.length < 4294967281) (h1 : r.p1.path.length < 4294967281) (hv : ∀ s ∈ fs, (ofR r s).length ≤ 1000000000) (htot : (putsB fs r).length ≤ 65531) :
    DCall P 28 [tv ⟨(i : Int), 0, fs⟩, .sl [rcc r]] [] (.tup [.sl (bcl (frameB i (putsB fs r))), .int .i64 0]) [] := by
  obtain ⟨r1, r2, r3⟩ := right_all hr
  have r1 : 1 ≤ fs.length := r1
  have r2 : fs.length ≤ 64 := r2
  have q1 := cRight_ok ⟨(i : Int), 0, fs⟩ (by omega)
  rw [hr] at q1
  have hfl := scl_len fs
  have hsl := fun k => putsB_len r (fs.take k)
  have a9 := wBytesR (putsB fs r) (by omega)
  have af := framed_ok i hi (putsB fs r) htot
  refine DCall.of_awp tok mixed fn28 (Nat.le_of_ble_eq_true rfl) ?_
  (conv => whnf); (repeat' ((first | (with_reducible refine Box.mk ?_) | ((with_reducible show ACall _ _ _ _ _); refine ACall.of_pure (by assumption) (by rfl) ?_) | fail) <;> conv => whnf))
  all_goals try (exfalso; rename_i h2; first | exact h2 rfl | exact absurd h2 (by decide))
  refine aloop (fun k : Nat => k ≤ 1) (fun k => ⟨envL [(2, .ptr 0 0), (6, .ptr 1 0), (14, .sl [rcc r]), (15, .int .i64 1), (16, .int .i64 (k : Int))], Ob.box 58 (tcs ⟨(i : Int), 0, fs⟩) :: (bif Nat.beq k 0 then [.box 89 [.nils]] else [.box 89 [.own 2], .row 5 1 (bcl (putsB fs r))])⟩) (fun k => 1 - k) 0 (Nat.zero_le _) (weak_ren_to [(0, true), (1, true)] rfl rfl rfl ⟨rfl, rfl, rfl, rfl, rfl, trivial⟩) ?_
  intro k hk
  match k, hk with
  | 0, _ =>
    (conv => whnf); (repeat' ((with_reducible first | refine Box.mk ?_ | refine And.intro (fun _ => ?_) (fun _ => ?_) | fail) <;> conv => whnf))
    rotate_left
    · rename_i h; exact absurd (show ¬ (0 : Int) < 1 from h) (by decide)
    refine ⟨by decide, rcc r, rfl, rfl, ?_⟩
    (conv => whnf); repeat' ((with_reducible refine Box.mk ?_) <;> conv => whnf)
    refine aloop (fun j : Nat => j ≤ fs.length) (fun j => ⟨envL [(2, .ptr 0 0), (6, .ptr 1 0), (8, .ptr 2 0), (14, .sl [rcc r]), (15, .int .i64 1), (16, .int .i64 0), (21, .sl (scl fs)), (22, .int .i64 ((scl fs).length : Int)), (23, .int .i64 (j : Int))], [Ob.box 58 (tcs ⟨(i : Int), 0, fs⟩), .box 89 [.own 3], .box 55 (rcc r), .row 5 1 (bcl (putsB (fs.take j) r))]⟩) (fun j => fs.length - j) 0 (Nat.zero_le _)
      (by exact weak_nilrow (H' := [Ob.box 58 (tcs ⟨(i : Int), 0, fs⟩), .box 89 [.own 3], .box 55 (rcc r)]) 5 1 (by decide) ⟨.inl rfl, .inl rfl, .inl rfl, .inl rfl, .inl rfl, .inl rfl, .inl rfl, .inl rfl, .inl rfl, trivial⟩ ⟨.inl rfl, .inr ⟨rfl, .inr ⟨rfl, rfl⟩, trivial⟩, .inl rfl, trivial⟩) ?_
    intro j hj
    by_cases hlt : j < fs.length
    · have hx := List.getElem?_eq_getElem hlt
      have hst := putsB_take (r := r) hx
      have hvs := hv _ (List.mem_of_getElem? hx)
      generalize fs[j] = s at *
      have hsj := hsl j
      have q4 := fOf_ok r s h0 h1
      have a5 := fPutR (putsB (fs.take j) r) (by rw [List.length_take] at hsj; omega) s (ofR r s) hvs
      rw [← hst] at a5
      generalize ofR r s = v at *
      (conv => whnf); (repeat' ((with_reducible first | refine Box.mk ?_ | refine And.intro (fun _ => ?_) (fun _ => ?_) | fail) <;> conv => whnf))
      rotate_left
      · exfalso; rename_i h; have h : ¬ (j : Int) < ((scl fs).length : Int) := h; omega
      refine ⟨by omega, scc s, scl_get hx, rfl, ?_⟩
      (conv => whnf); repeat' ((with_reducible refine Box.mk ?_) <;> conv => whnf)
      refine ⟨[(2004, [])], by kernel_rfl, ?_⟩
      (conv => whnf); repeat' ((with_reducible refine Box.mk ?_) <;> conv => whnf)
      refine aDr [] q4 rfl rfl rfl rfl ?_
      (conv => whnf); repeat' ((with_reducible refine Box.mk ?_) <;> conv => whnf)
      refine aDw [1, 3] a5 rfl rfl rfl ?_
      (conv => whnf); repeat' ((with_reducible refine Box.mk ?_) <;> conv => whnf)
      exact ⟨j + 1, hlt, by omega, weak_ren_to [(0, true), (1, true), (2, true), (5, true)] rfl rfl rfl ⟨rfl, rfl, rfl, rfl, rfl, rfl, rfl, rfl, wrap_nat (m := 1) (by omega), trivial⟩⟩
    · have : j = fs.length := by omega
      subst this
      rw [List.take_length]
      (conv => whnf); (repeat' ((with_reducible first | refine Box.mk ?_ | refine And.intro (fun _ => ?_) (fun _ => ?_) | fail) <;> conv => whnf))
      · exfalso; rename_i h; have h : ((fs.length : Nat) : Int) < ((scl fs).length : Int) := h; omega
      exact ⟨1, Nat.le_refl _, by omega, weak_ren_to [(0, true), (1, true), (3, true)] rfl rfl rfl ⟨rfl, rfl, rfl, rfl, wrap_nat (n := 0) (m := 1) (by omega), trivial⟩⟩
  | 1, _ =>
    (conv => whnf); (repeat' ((with_reducible first | refine Box.mk ?_ | refine And.intro (fun _ => ?_) (fun _ => ?_) | fail) <;> conv => whnf))
    · rename_i h; exact absurd (show (1 : Int) < 1 from h) (by decide)
    refine ⟨[], by kernel_rfl, ?_⟩
    (conv => whnf); repeat' ((with_reducible refine Box.mk ?_) <;> conv => whnf)
    refine aDr [1, 2] a9 rfl rfl rfl rfl ?_
    (conv => whnf); repeat' ((with_reducible refine Box.mk ?_) <;> conv => whnf)
    refine aDr [] af rfl rfl rfl rfl ?_
    (conv => whnf); repeat' ((with_reducible refine Box.mk ?_) <;> conv => whnf)
    exact weak_ren_to [] rfl rfl rfl ⟨rfl, trivial⟩
set_option maxHeartbeats 4000000 in
theorem withdraw_one : DCall P 29 [.bool false, .sl [[.int .i64 2]]] [] (.tup [.sl (bcl (frameB 2 (numB 2 2 ++ numB 0 2))), .int .i64 0]) [] := by
  have a1 := wNumN 2 2
  rw [show szN 2 = 2 from rfl] at a1
  have l1 := numB_len 2 2
  have a2 := wNumR (numB 2 2) (by omega) 0 2
  rw [show szN 2 = 2 from rfl] at a2
  have l2 : (numB 2 2 ++ numB 0 2).length = 4 := by rw [List.length_append, numB_len, numB_len]
  have a9 := wBytesR (numB 2 2 ++ numB 0 2) (by omega)
  have af := framed_ok 2 (by decide) (numB 2 2 ++ numB 0 2) (by omega)
  generalize numB 2 2 ++ numB 0 2 = tb at *
  generalize numB 2 2 = x at *
  refine DCall.of_awp tok mixed fn29 (Nat.le_of_ble_eq_true rfl) ?_
  (conv => whnf); repeat' ((with_reducible refine Box.mk ?_) <;> conv => whnf)
  refine aloop (fun k : Nat => k ≤ 1) (fun k => ⟨envL [(6, .ptr 0 0), (7, .int .i64 2), (11, .sl [[.int .i64 2]]), (12, .int .i64 1), (13, .int .i64 (k : Int))], bif Nat.beq k 0 then wN else wR tb⟩) (fun k => 1 - k) 0 (Nat.zero_le _) (weak_ren_to [(0, true)] rfl rfl rfl ⟨rfl, rfl, rfl, rfl, rfl, trivial⟩) ?_
  intro k hk
  match k, hk with
  | 0, _ =>
    (conv => whnf); (repeat' ((with_reducible first | refine Box.mk ?_ | refine And.intro (fun _ => ?_) (fun _ => ?_) | fail) <;> conv => whnf))
    rotate_left
    · rename_i h; exact absurd (show ¬ (0 : Int) < 1 from h) (by decide)
    refine ⟨by decide, [.int .i64 2], rfl, rfl, ?_⟩
    (conv => whnf); (repeat' ((with_reducible first | refine Box.mk ?_ | refine And.intro (fun _ => ?_) (fun _ => ?_) | fail) <;> conv => whnf))
    rotate_left
    all_goals try exact absurd rfl (by assumption)
    refine aW [0] a1 rfl rfl rfl ?_
    (conv => whnf); repeat' ((with_reducible refine Box.mk ?_) <;> conv => whnf)
    refine aW [0, 1] a2 rfl rfl rfl ?_
    (conv => whnf); repeat' ((with_reducible refine Box.mk ?_) <;> conv => whnf)
    exact ⟨1, Nat.le_refl _, by omega, weak_ren_to [(0, true), (2, true)] rfl rfl rfl ⟨rfl, rfl, rfl, rfl, wrap_nat (n := 0) (m := 1) (by omega), trivial⟩⟩
  | 1, _ =>
    (conv => whnf); (repeat' ((with_reducible first | refine Box.mk ?_ | refine And.intro (fun _ => ?_) (fun _ => ?_) | fail) <;> conv => whnf))
    · rename_i h; exact absurd (show (1 : Int) < 1 from h) (by decide)
    refine aW [0, 1] a9 rfl rfl rfl ?_
    (conv => whnf); repeat' ((with_reducible refine Box.mk ?_) <;> conv => whnf)
    refine aW [] af rfl rfl rfl ?_
    (conv => whnf); repeat' ((with_reducible refine Box.mk ?_) <;> conv => whnf)
    exact weak_ren_to [] rfl rfl rfl ⟨rfl, trivial⟩
end Go.Proofs.YtnajpmepcffnaaaGreatDoor
end

section
/- ref16: Same, SameAll, and the laws' Same and SameRecords, of what is the same. -/
namespace Go.Proofs.YtnajpmepcffnaaaGreatDoor
open Go.Ve

theorem hdl_get2 {G : List Hd} {i : Nat} {h : Hd} (hx : G[i]? = some h) : (hdl G)[(i : Int).toNat]? = some (hdc h) := by
  rw [Int.toNat_natCast, hdl_get, hx]; rfl
theorem same_refl (t : Tm) (hl : t.fields.length ≤ 1000000000) : PCall P 19 [tv t, tv t] (.bool true) := by
  have hfl := scl_len t.fields
  refine PCall.of_awp tok mixed fn19 (Nat.le_of_ble_eq_true rfl) ?_
  (conv => whnf); (repeat' ((with_reducible first | refine Box.mk ?_ | refine And.intro (fun _ => ?_) (fun _ => ?_) | fail) <;> conv => whnf))
  all_goals try (exact absurd rfl (by assumption))
  refine aloopH (fun i : Nat => i ≤ t.fields.length) (fun i => [(2, .ptr 0 0), (3, .ptr 1 0), (5, .int .i64 (i : Int))]) (fun _ H => H) (fun i => t.fields.length - i) 0 (Nat.zero_le _) (weak_to ⟨rfl, rfl, rfl, trivial⟩ rfl) ?_
  intro i hi
  by_cases hlt : i < t.fields.length
  · have hx := List.getElem?_eq_getElem hlt
    generalize t.fields[i] = s at *
    have hg := scl_get hx
    (conv => whnf); (repeat' ((with_reducible first | refine Box.mk ?_ | refine And.intro (fun _ => ?_) (fun _ => ?_) | fail) <;> conv => whnf))
    rotate_left
    · exfalso; rename_i h; have h : ¬ (i : Int) < ((scl t.fields).length : Int) := h; omega
    refine ⟨[], by kernel_rfl, ?_⟩
    (conv => whnf); repeat' ((with_reducible refine Box.mk ?_) <;> conv => whnf)
    refine ⟨by omega, scc s, hg, rfl, ?_⟩
    (conv => whnf); repeat' ((with_reducible refine Box.mk ?_) <;> conv => whnf)
    refine ⟨by omega, scc s, hg, rfl, ?_⟩
    (conv => whnf); (repeat' ((with_reducible first | refine Box.mk ?_ | refine And.intro (fun _ => ?_) (fun _ => ?_) | fail) <;> conv => whnf))
    rotate_left
    · rename_i h; exact absurd ⟨rfl, rfl, rfl⟩ h
    exact ⟨i + 1, hlt, by omega, weak_to ⟨rfl, rfl, wrap_nat (m := 1) (by omega), trivial⟩ rfl⟩
  · have : i = t.fields.length := by omega
    subst this
    (conv => whnf); (repeat' ((with_reducible first | refine Box.mk ?_ | refine And.intro (fun _ => ?_) (fun _ => ?_) | fail) <;> conv => whnf))
    · exfalso; rename_i h; have h : ((t.fields.length : Nat) : Int) < ((scl t.fields).length : Int) := h; omega
    rfl
theorem sameAll_refl (G : List Hd) (hG : ∀ h ∈ G, rightT h.t = true) (hl : G.length ≤ 1000000000) : PCall P 16 [.sl (hdl G), .sl (hdl G)] (.bool true) := by
  have hgl := hdl_len G
  refine PCall.of_awp tok mixed fn16 (Nat.le_of_ble_eq_true rfl) ?_
  (conv => whnf); (repeat' ((with_reducible first | refine Box.mk ?_ | refine And.intro (fun _ => ?_) (fun _ => ?_) | fail) <;> conv => whnf))
  all_goals try (exact absurd rfl (by assumption))
  refine aloopH (fun i : Nat => i ≤ G.length) (fun i => [(0, .sl (hdl G)), (1, .sl (hdl G)), (5, .int .i64 (i : Int))]) (fun _ H => H) (fun i => G.length - i) 0 (Nat.zero_le _) (weak_to ⟨rfl, rfl, rfl, trivial⟩ rfl) ?_
  intro i hi
  by_cases hlt : i < G.length
  · have hx := List.getElem?_eq_getElem hlt
    have hr := hG _ (List.mem_of_getElem? hx)
    generalize G[i] = h at *
    have hg := hdl_get2 hx
    have q1 := same_refl h.t (by have := rightT_len hr; omega)
    (conv => whnf); (repeat' ((with_reducible first | refine Box.mk ?_ | refine And.intro (fun _ => ?_) (fun _ => ?_) | fail) <;> conv => whnf))
    rotate_left
    · exfalso; rename_i h; have h : ¬ (i : Int) < ((hdl G).length : Int) := h; omega
    refine ⟨[], by kernel_rfl, ?_⟩
    (conv => whnf); repeat' ((with_reducible refine Box.mk ?_) <;> conv => whnf)
    refine ⟨by omega, hdc h, hg, rfl, ?_⟩
    (conv => whnf); repeat' ((with_reducible refine Box.mk ?_) <;> conv => whnf)
    refine ⟨by omega, hdc h, hg, rfl, ?_⟩
    (conv => whnf); (repeat' ((with_reducible first | refine Box.mk ?_ | refine And.intro (fun _ => ?_) (fun _ => ?_) | fail) <;> conv => whnf))
    all_goals try (exact absurd rfl (by assumption))
    refine ⟨by omega, hdc h, hg, rfl, ?_⟩
    (conv => whnf); repeat' ((with_reducible refine Box.mk ?_) <;> conv => whnf)
    refine ⟨by omega, hdc h, hg, rfl, ?_⟩
    (conv => whnf); (repeat' ((first | (with_reducible refine Box.mk ?_) | ((with_reducible show Exists _); refine ⟨_, ACall.of_pure (by assumption) (by rfl) ⟨rfl, rfl⟩, ?_⟩) | fail) <;> conv => whnf))
    exact ⟨i + 1, hlt, by omega, weak_to ⟨rfl, rfl, wrap_nat (m := 1) (by omega), trivial⟩ rfl⟩
  · have : i = G.length := by omega
    subst this
    (conv => whnf); (repeat' ((with_reducible first | refine Box.mk ?_ | refine And.intro (fun _ => ?_) (fun _ => ?_) | fail) <;> conv => whnf))
    · exfalso; rename_i h; have h : ((G.length : Nat) : Int) < ((hdl G).length : Int) := h; omega
    rfl
end Go.Proofs.YtnajpmepcffnaaaGreatDoor
end

section
/- alive17. -/
namespace Go.Proofs.YtnajpmepcffnaaaGreatDoor
open Go.Ve

def fs0 : List Sc := [⟨8, 0, 4⟩, ⟨1, 0, 2⟩]
def t0 : Tm := ⟨256, 0, fs0⟩
def f0 : Rc := ⟨⟨1, 32, 167772161 * 2 ^ 96, []⟩, zeroK, zeroK, zeroK, 0, 500⟩
def h0 : Hh := ⟨1, 0, 7, 0, 0⟩
def a0B : Bs := frameB 2 (tmplB 256 fs0)
def d0B : Bs := frameB 256 (putsB fs0 f0)
def b0B : Bs := msgB h0 [a0B, d0B].flatten
def w0B : Bs := frameB 2 (numB 2 2 ++ numB 0 2)
def m0B : Bs := msgB h0 [w0B, d0B].flatten
def c1S : Cs := ⟨false, [(⟨7, t0⟩, 0)], 1⟩
theorem t0_right : rightT t0 = true := by decide
theorem b0_val : b0B = [0, 10, 0, 42, 0, 0, 0, 1, 0, 0, 0, 0, 0, 0, 0, 7, 0, 2, 0, 16, 1, 0, 0, 2, 0, 8, 0, 4, 0, 1, 0, 2, 1, 0, 0, 10, 10, 0, 0, 1, 1, 244] := by kernel_rfl
theorem read_b0 : readM opC newS [0, 10, 0, 42, 0, 0, 0, 1, 0, 0, 0, 0, 0, 0, 0, 7, 0, 2, 0, 16, 1, 0, 0, 2, 0, 8, 0, 4, 0, 1, 0, 2, 1, 0, 0, 10, 10, 0, 0, 1, 1, 244] = (⟨c1S, 1, 0, 7, 0, 0, [f0]⟩, 0) := by kernel_rfl
theorem m0_val : m0B = [0, 10, 0, 34, 0, 0, 0, 1, 0, 0, 0, 0, 0, 0, 0, 7, 0, 2, 0, 8, 0, 2, 0, 0, 1, 0, 0, 10, 10, 0, 0, 1, 1, 244] := by kernel_rfl
theorem read_m0 : readM opC c1S [0, 10, 0, 34, 0, 0, 0, 1, 0, 0, 0, 0, 0, 0, 0, 7, 0, 2, 0, 8, 0, 2, 0, 0, 1, 0, 0, 10, 10, 0, 0, 1, 1, 244] = (⟨⟨false, [], 1⟩, 1, 0, 7, 1, 0, []⟩, 0) := by kernel_rfl
theorem list_nil : listE [] = [] := List.length_eq_zero_iff.1 (by rw [listE_len]; rfl)
theorem clone_new : cloneS newS = newS := by
  unfold cloneS newS
  rw [list_nil]; rfl
theorem list_c1 : listE c1S.es = [⟨7, t0⟩] := by
  refine Rel.list (by decide) ⟨?_, fun h => ?_⟩
  · unfold OrdC; exact List.pairwise_singleton _ _
  · constructor
    · intro hh; exact ⟨_, List.mem_singleton.2 rfl, (List.mem_singleton.1 hh).symm⟩
    · rintro ⟨e, he, rfl⟩; rw [List.mem_singleton.1 he]; exact List.mem_singleton.2 rfl
theorem clone_c1 : cloneS c1S = c1S := by
  unfold cloneS
  rw [list_c1]; rfl
end Go.Proofs.YtnajpmepcffnaaaGreatDoor
end

section
/- Code, walked in parts: between two parts the state may be said in fewer words. -/
namespace Go.Ve
open Go

variable {P : Program} {T : TT} {n : Nat}
theorem calls_of_sound [Dr] (hT : TOk P T) (_hm : P.follows .mixedOrders = true) {f : FuncId} {c : Code} {rs : List ResultVar} (hf : FnIs P f n c rs) {args : List AV} (hn : args.length ≤ n) {H : Hp} {K : List AV → Hp → Prop}
    (h : Sound P n none H.length c (FPost T rs K) ⟨env0 args, H⟩) {M0 : Nat → Prop} {σ : List Value} {w : World} {vs : List Value} (hs : St M0 H σ w) (hv : Rvs (Kof M0 H σ w) σ args vs) :
    Calls P f vs.toArray w fun e w' => ∃ xs us H' σ', e = .returned (if h : us.toArray.size = 1 then us.toArray[0] else .tuple us.toArray) ∧ K xs H' ∧ Rvs (Kof M0 H' σ' w') σ' xs us ∧ St M0 H' σ' w' ∧ Ext H σ w H' σ' w' := by
  obtain ⟨fn, h1, h2, rfl, rfl, h5⟩ := hf.ex
  refine (callsIn_wide (n := 0)).1 (callsIn_of_wp_marks (F := Fr none) h1 h2 trivial (wpIn_mono (h w.heap.size none [] M0 H σ w σ w _ hs.len (Ext.refl _ _ _) rfl (Nat.le_refl _) MarksOk.nil hs (hv.act hn)) fun e a' w' hq => ?_))
  obtain ⟨x, s', σ', D', rfl, k1, k2, k3, kD, kd, k4⟩ := hq
  have fin : ∀ (h1 : resOfs T s' fn.results.toList fun vs => K vs s'.H), LeavesInM (Fr none) 0 P fn a'.tmps (fun e w' => ∃ xs us H' σ', e = .returned (if h : us.toArray.size = 1 then us.toArray[0] else .tuple us.toArray) ∧ K xs H' ∧ Rvs (Kof M0 H' σ' w') σ' xs us ∧ St M0 H' σ' w' ∧ Ext H σ w H' σ' w') a'.defers .returning w' := by
    intro h1
    rw [k4.defers]
    refine leaves_marks D' w' (fun d hd => let ⟨r, e, _, _, hr⟩ := kD.each d hd; ⟨r, e, hr⟩) kD.nodup fun w'' hsh => ?_
    obtain ⟨q1, q2, q3⟩ := shut_ok hsh kD k2 k3
    obtain ⟨xs, us, m1, m2, m3⟩ := results_run (fn := fn) hT q1 (⟨k4.size, k4.defers, fun i => (k4.rv i).mono q3 (List.prefix_refl _)⟩ : ActOk D' _ σ' _ s'.env a') h1
    exact ⟨_, m3, xs, us, s'.H, σ', rfl, m1, m2, q1, q2⟩
  cases x with
  | exit id => exact k1.elim
  | normal => exact fin k1
  | ret => exact fin k1

theorem PCall.of_sound [Dr] (hT : TOk P T) (hm : P.follows .mixedOrders = true) {f : FuncId} {c : Code} {rs : List ResultVar} (hf : FnIs P f n c rs) {args : List AV} (hn : args.length ≤ n) {r : AV}
    (h : Sound P n none 0 c (PPost T rs r) ⟨env0 args, []⟩) : PCall P f args r := by
  unfold PCall
  refine ⟨hf.callable, fun M0 w vs hM hG hv => ?_⟩
  have hs : St M0 [] [] w := St.nil hM hG
  have h' : Sound P n none 0 c (FPost T rs fun xs H' => match viewAll H' xs with | some us => forceL us fun us' => mkRes us' = r | none => False) ⟨env0 args, []⟩ := by
    have e : (FPost T rs fun xs H' => match viewAll H' xs with | some us => forceL us fun us' => mkRes us' = r | none => False) = PPost T rs r := by
      funext x s; cases x <;> rfl
    rw [e]; exact h
  refine Calls.mono (calls_of_sound (H := []) hT hm hf hn h' hs (by rw [Kof_nil]; exact hv)) fun e w' he => ?_
  obtain ⟨xs, us, H', σ', rfl, k1, k2, k3, k4⟩ := he
  cases hva : viewAll H' xs with
  | none => rw [hva] at k1; exact k1.elim
  | some ys =>
    rw [hva] at k1
    simp only [forceL_eq] at k1
    subst k1
    exact ⟨_, rfl, ⟨k4.os, k4.tape, k4.output, k4.size, fun b hb => k4.keep b hb Mb_nil⟩, mk_run (viewAll_rv k3 k2 hva)⟩

theorem Sound.seq [Dr] {rd : Option Nat} {N0 : Nat} (hT : TOk P T) (hm : P.follows .mixedOrders = true) {x y : Code} {Q : AQ} {s : AS} (h : AWP P T n rd N0 x (afterQ (fun s' => Sound P n rd N0 y Q s') Q) s) : Sound P n rd N0 (.seq x y) Q s := by
  intro B rc D M0 H0 σ0 w0 σ w a hN0 hE hrd hBw hD hs ha
  refine wpIn_seq (wpIn_mono (awp_sound hT hm x _ s h B rc D M0 H0 σ0 w0 σ w a hN0 hE hrd hBw hD hs ha) fun e a' w' hq => ?_)
  obtain ⟨x1, s', σ', D', rfl, k1, k2, k3, kD, kd, k4⟩ := hq
  cases x1 with
  | normal =>
    refine wpIn_mono (k1 B rc D' M0 H0 σ0 w0 σ' w' a' hN0 k3 hrd hBw kD k2 k4) fun e a'' w'' hq => ?_
    obtain ⟨x1, s'', σ'', D'', rfl, m1, m2, m3, mD, md, m4⟩ := hq
    exact ⟨x1, s'', σ'', D'', rfl, m1, m2, m3, mD, fun h => (md h).trans (kd h), m4⟩
  | exit id => exact ⟨.exit id, s', σ', D', rfl, k1, k2, k3, kD, kd, k4⟩
  | ret => exact ⟨.ret, s', σ', D', rfl, k1, k2, k3, kD, kd, k4⟩
theorem Sound.weak [Dr] {rd : Option Nat} {N0 : Nat} {c : Code} {Q : AQ} {s s2 : AS} (hw : Weak N0 s s2) (h : Sound P n rd N0 c Q s2) : Sound P n rd N0 c Q s := by
  intro B rc D M0 H0 σ0 w0 σ w a hN0 hE hrd hBw hD hs ha
  obtain ⟨σ2, m1, m2, m3, m4⟩ := hw M0 σ w n a D (by rw [← hN0]; exact hE.pre.length_le) hs ha
  refine h B rc D M0 H0 σ0 w0 σ2 w a hN0 ⟨hE.os, hE.tape, hE.output, hE.size, ?_, hE.keep, fun b hb hm => hE.mutb b hb (m2 b hm)⟩ hrd hBw (hD.weak m2) m3 m4
  obtain ⟨t, ht⟩ := hE.pre
  have : σ.take N0 = σ0 := by rw [← ht, ← hN0]; simp
  rw [this] at m1; exact m1
theorem Sound.awp [Dr] {rd : Option Nat} {N0 : Nat} (hT : TOk P T) (hm : P.follows .mixedOrders = true) {c : Code} {Q : AQ} {s : AS} (h : AWP P T n rd N0 c Q s) : Sound P n rd N0 c Q s := awp_sound hT hm c Q s h
end Go.Ve
end

section
/- alive17. -/
namespace Go.Proofs.YtnajpmepcffnaaaGreatDoor
open Go.Ve
attribute [local irreducible] Sound
def F0 : List AV := [.int .i64 1, .int .i64 32, .int .u64 720575944674246656, .int .u64 0, .str [], .int .i64 0, .int .i64 0, .int .u64 0, .int .u64 0, .str [], .int .i64 0, .int .i64 0, .int .u64 0, .int .u64 0, .str [], .int .i64 0, .int .i64 0, .int .u64 0, .int .u64 0, .str [], .int .u64 0, .int .u64 500]
theorem f0_cells : rcc f0 = F0 := by kernel_rfl
theorem fs0_all {p : Sc → Prop} (h1 : p ⟨8, 0, 4⟩) (h2 : p ⟨1, 0, 2⟩) : ∀ s ∈ fs0, p s := fun s hs => by
  rcases List.mem_cons.1 hs with rfl | hs
  · exact h1
  · rw [List.mem_singleton.1 hs]; exact h2
def T0 : List AV := [.int .i64 256, .int .i64 0, .sl (scl fs0)]
theorem tellA : DCall P 27 [.sl [T0]] [] (.tup [.sl (bcl a0B), .int .i64 0]) [] :=
  templates_one 256 fs0 t0_right (by decide) (fs0_all ⟨by decide, by decide⟩ ⟨by decide, by decide⟩)
theorem tellD : DCall P 28 [.agg T0, .sl [F0]] [] (.tup [.sl (bcl d0B), .int .i64 0]) [] := by
  have := data_one 256 fs0 f0 t0_right (by decide) (by decide) (by decide)
    (fs0_all (by rw [show (ofR f0 ⟨8, 0, 4⟩).length = 4 from by kernel_rfl]; decide) (by rw [show (ofR f0 ⟨1, 0, 2⟩).length = 2 from by kernel_rfl]; decide))
    (by rw [show (putsB fs0 f0).length = 6 from by kernel_rfl]; decide)
  rwa [f0_cells] at this
def Hv0 : AV := .agg [.int .u32 1, .int .u32 0, .int .u32 7, .int .i64 0, .int .i64 0]
theorem h0_ok : HhOk h0 := ⟨by decide, by decide, by decide⟩
theorem tellB : DCall P 13 [Hv0, .sl [[.sl (bcl a0B)], [.sl (bcl d0B)]]] [] (.tup [.sl (bcl b0B), .int .i64 0]) [] :=
  message_ok h0 h0_ok [a0B, d0B] (by show 2 ≤ _; omega) (by rw [show [a0B, d0B].flatten.length = 26 from by kernel_rfl]; omega)
theorem tellM : DCall P 13 [Hv0, .sl [[.sl (bcl w0B)], [.sl (bcl d0B)]]] [] (.tup [.sl (bcl m0B), .int .i64 0]) [] :=
  message_ok h0 h0_ok [w0B, d0B] (by show 2 ≤ _; omega) (by rw [show [w0B, d0B].flatten.length = 18 from by kernel_rfl]; omega)
theorem b0_len : b0B.length = 42 := by rw [b0_val]; rfl
theorem m0_len : m0B.length = 34 := by rw [m0_val]; rfl
theorem tel17R : DCall P 8 [.ptr 0 0, .sl (bcl b0B)] [.box 67 [.nilm]] (.tup [.ptr 1 0, .sl [F0], Hv0, .int .i64 0]) [.box 67 [.nilm], .box 67 [.own 2], .map pk2 (ces c1S.es) 1] := by
  have h := (ipRead_ok newS CI.new b0B (by rw [b0_len]; omega)).2
  rw [clone_new, b0_val, read_b0] at h
  have h := h rfl
  rw [b0_val]
  have e : goodV (cH newS).length (⟨c1S, 1, 0, 7, 0, 0, [f0]⟩ : Rd Cs) = .tup [.ptr 1 0, .sl [F0], Hv0, .int .i64 0] := by
    unfold goodV
    rw [show rcl (⟨c1S, 1, 0, 7, 0, 0, [f0]⟩ : Rd Cs).out = [rcc f0] from rfl, f0_cells]; rfl
  dsimp only at h
  rw [e] at h
  exact h
theorem c1_ci : CI c1S := by
  have h := ci_read (c := newS) CI.new (b := b0B) (by rw [b0_len]; omega)
  rwa [b0_val, read_b0] at h
theorem c2_ci : CI ⟨false, [], 1⟩ := by
  have h := ci_read (c := c1S) c1_ci (b := m0B) (by rw [m0_len]; omega)
  rwa [m0_val, read_m0] at h
theorem tel17X : DCall P 8 [.ptr 0 0, .sl (bcl m0B)] [.box 67 [.own 1], .map pk2 (ces c1S.es) 1] (.tup [.ptr 2 0, .sl [], .agg [.int .u32 1, .int .u32 0, .int .u32 7, .int .i64 1, .int .i64 0], .int .i64 0]) [.box 67 [.own 1], .map pk2 (ces c1S.es) 1, .box 67 [.own 3], .map pk2 [] 1] := by
  have h := (ipRead_ok c1S c1_ci m0B (by rw [m0_len]; omega)).2
  rw [clone_c1, m0_val, read_m0] at h
  rw [m0_val]
  exact h rfl
theorem tellF : DCall P 18 [.ptr 0 0, .int .u32 7, .int .i64 256] [.box 67 [.own 1], .map pk2 (ces c1S.es) 1] (.tup [.agg T0, .bool true]) [.box 67 [.own 1], .map pk2 (ces c1S.es) 1] := find_ok c1S c1_ci 7 256
theorem tellS : PCall P 19 [.agg T0, .agg T0] (.bool true) := same_refl t0 (by decide)
theorem tellL : DCall P 15 [.ptr 0 0] [.box 67 [.own 1], .map pk2 [] 1] (.sl []) [.box 67 [.own 1], .map pk2 [] 1] := by
  have h := list_ok ⟨false, [], 1⟩ c2_ci
  rw [show listE (⟨false, [], 1⟩ : Cs).es = [] from list_nil] at h
  exact h
theorem tellW : DCall P 29 [.bool false, .sl [[.int .i64 2]]] [] (.tup [.sl (bcl w0B), .int .i64 0]) [] := withdraw_one
set_option maxHeartbeats 4000000 in
theorem alive_17 : PCall P 12 [] (.bool true) := by
  have qA := tellA
  have qD := tellD
  have qB := tellB
  have qM := tellM
  have qR := tel17R
  have qX := tel17X
  have qF := tellF
  have qS := tellS
  have qL := tellL
  have qW := tellW
  have qN := read_nilp b0B
  have qT := templates_nil
  have qC := cnew_ok
  have hbl : (bcl b0B).length = 42 := by rw [bcl_len, b0_len]
  have hbl2 : ((bcl b0B).length : Int) = 42 := by rw [hbl]; rfl
  generalize a0B = a at *
  generalize d0B = dd at *
  generalize b0B = b at *
  generalize w0B = w at *
  generalize m0B = m at *
  generalize ces c1S.es = es at *
  unfold T0 Hv0 F0 badV hv0 at *
  refine PCall.of_sound tok mixed fn12 (Nat.le_of_ble_eq_true rfl) ?_
  refine Sound.seq tok mixed ?_
  (conv => whnf); repeat' ((with_reducible refine Box.mk ?_) <;> conv => whnf)
  refine Sound.seq tok mixed ?_
  (conv => whnf); repeat' ((with_reducible refine Box.mk ?_) <;> conv => whnf)
  refine Sound.weak ((weak_const 0 rfl (l := [(1, .ptr 1 0)]) rfl ⟨rfl, trivial⟩).trans (weak_ren_to (l := [(1, .ptr 0 0)]) (H' := [.box 58 [.int .i64 256, .int .i64 0, .sl (scl fs0)]]) [(1, true)] rfl rfl rfl ⟨rfl, trivial⟩)) ?_
  refine Sound.awp tok mixed ?_
  (conv => whnf); repeat' ((with_reducible refine Box.mk ?_) <;> conv => whnf)
  refine ACall.freeze 2 rfl rfl ?_
  refine aW [] qA rfl rfl rfl ?_
  (conv => whnf); repeat' ((with_reducible refine Box.mk ?_) <;> conv => whnf)
  refine ACall.freeze 3 rfl rfl ?_
  refine aW [] qD rfl rfl rfl ?_
  (conv => whnf); repeat' ((with_reducible refine Box.mk ?_) <;> conv => whnf)
  refine ACall.freeze 4 rfl rfl ?_
  refine aW [] qB rfl rfl rfl ?_
  (conv => whnf); repeat' ((with_reducible refine Box.mk ?_) <;> conv => whnf)
  refine aW [] qC rfl rfl rfl ?_
  (conv => whnf); repeat' ((with_reducible refine Box.mk ?_) <;> conv => whnf)
  refine aW [5] qR rfl rfl rfl ?_
  (conv => whnf); (repeat' ((with_reducible first | refine Box.mk ?_ | refine And.intro (fun _ => ?_) (fun _ => ?_) | fail) <;> conv => whnf))
  all_goals try contradiction
  all_goals try exact absurd hbl2 (by assumption)
  all_goals try exact absurd rfl (by assumption)
  refine aW [6, 7] qF rfl rfl rfl ?_
  (conv => whnf); repeat' ((with_reducible refine Box.mk ?_) <;> conv => whnf)
  refine ACall.freeze 10 rfl rfl ?_
  refine aW [] qW rfl rfl rfl ?_
  (conv => whnf); repeat' ((with_reducible refine Box.mk ?_) <;> conv => whnf)
  refine ACall.freeze 11 rfl rfl ?_
  refine aW [] qM rfl rfl rfl ?_
  (conv => whnf); repeat' ((with_reducible refine Box.mk ?_) <;> conv => whnf)
  refine aW [6, 7] qX rfl rfl rfl ?_
  (conv => whnf); repeat' ((with_reducible refine Box.mk ?_) <;> conv => whnf)
  refine aW [] qN rfl rfl rfl ?_
  (conv => whnf); repeat' ((with_reducible refine Box.mk ?_) <;> conv => whnf)
  refine aW [] qT rfl rfl rfl ?_
  (conv => whnf); repeat' ((with_reducible refine Box.mk ?_) <;> conv => whnf)
  refine ⟨[], by kernel_rfl, ?_⟩
  (conv => whnf); repeat' ((with_reducible refine Box.mk ?_) <;> conv => whnf)
  refine ⟨Int.le_refl _, _, rfl, rfl, ?_⟩
  (conv => whnf); (repeat' ((first | (with_reducible first | refine Box.mk ?_ | refine And.intro (fun _ => ?_) (fun _ => ?_) | fail) | ((with_reducible show Exists _); refine ⟨_, ACall.of_pure (by assumption) (by rfl) ⟨rfl, rfl⟩, ?_⟩) | fail) <;> conv => whnf))
  all_goals try (rename_i h; first | exact h.elim | exact absurd rfl h | exact absurd (by simp) h)
  refine aDr [12, 13] qL rfl rfl rfl rfl ?_
  (conv => whnf); (repeat' ((with_reducible first | refine Box.mk ?_ | refine And.intro (fun _ => ?_) (fun _ => ?_) | fail) <;> conv => whnf))
  all_goals try (rename_i h; first | exact h.elim | exact absurd rfl h | exact absurd (by simp) h)
  all_goals try rfl
end Go.Proofs.YtnajpmepcffnaaaGreatDoor
end

section
/- law17: IpfixApart, what is said. -/
namespace Go.Proofs.YtnajpmepcffnaaaGreatDoor
open Go.Ve

theorem keeps_find {d : Nat} {c c' : Cs} (hc : CI c) (hc' : CI c') (h : Keeps d c c') {g : Hd} (hg : g ∈ listE c'.es) (hd : g.dom ≠ d) : findE c.es (g.dom, g.t.id) = some g := by
  obtain ⟨e, he, hk⟩ := (h g hd).2 (((listE_rel hc'.nodup).2 g).1 hg)
  have := findE_in hc.nodup he
  rw [hk] at this
  exact this
theorem Keeps.symm {d : Nat} {c c' : Cs} (h : Keeps d c c') : Keeps d c' c := fun g hg => (h g hg).symm
theorem keeps_clone {c : Cs} (hc : CI c) (d : Nat) : Keeps d c (cloneS c) := fun g _ => by
  rw [← (listE_rel hc.nodup).2 g, (clone_rel hc).2 g]
theorem setF_outs (d : Rd Cs) (id : Nat) (b : Bs) : (setF opC d id b).1.out.length ≤ d.out.length + b.length := by
  unfold setF
  split
  · exact Nat.le_add_right _ _
  · split
    · exact Nat.le_add_right _ _
    · split
      · exact Nat.le_add_right _ _
      · unfold recordsF
        split
        · exact Nat.le_add_right _ _
        · split
          · exact Nat.le_add_right _ _
          · exact recs_more _ _ _ _
theorem sets_outs : ∀ (n : Nat) {d : Rd Cs} (bs : Bs), (setsF opC n d bs).1.out.length ≤ d.out.length + bs.length
  | 0, d, bs => Nat.le_add_right _ _
  | n + 1, d, bs => by
    unfold setsF
    split
    · exact Nat.le_add_right _ _
    · split
      · exact Nat.le_add_right _ _
      · split
        · exact Nat.le_add_right _ _
        · split
          · exact Nat.le_add_right _ _
          · have h1 := setF_outs d (idB bs) ((bs.drop 4).take (cntB bs - 4))
            have hl : ((bs.drop 4).take (cntB bs - 4)).length + (bs.drop (cntB bs)).length ≤ bs.length := by simp only [List.length_take, List.length_drop]; omega
            generalize setF opC d (idB bs) ((bs.drop 4).take (cntB bs - 4)) = q0 at *
            obtain ⟨d1, er⟩ := q0
            dsimp only at h1 ⊢
            split
            · show d1.out.length ≤ _; omega
            · have := sets_outs n (d := d1) (bs.drop (cntB bs))
              omega
theorem read_says {c : Cs} (hc : CI c) {b : Bs} (hb : b.length ≤ 1000000000) (h0 : (readM opC (cloneS c) b).2 = 0) :
    CI (readM opC (cloneS c) b).1.c ∧ Keeps (readM opC (cloneS c) b).1.dom c (readM opC (cloneS c) b).1.c ∧ (∀ r ∈ (readM opC (cloneS c) b).1.out, rightR r = true) ∧ (readM opC (cloneS c) b).1.out.length ≤ 1000000000 := by
  refine ⟨ci_read hc.clone hb, ?_⟩
  unfold readM at *
  by_cases hh : headE b ≠ 0
  · rw [if_pos hh] at h0; exact absurd h0 hh
  · rw [if_neg hh]
    have hk := keeps_sets (b.drop 16).length ⟨cloneS c, hTime b, hSeq b, hDom b, 0, 0, []⟩ (b.drop 16)
    have hr := sets_right opC (b.drop 16).length ⟨cloneS c, hTime b, hSeq b, hDom b, 0, 0, []⟩ (b.drop 16) (fun r hr => by cases hr)
    have hdm := (sets_dom opC (b.drop 16).length ⟨cloneS c, hTime b, hSeq b, hDom b, 0, 0, []⟩ (b.drop 16)).1
    have ho := sets_outs (b.drop 16).length (d := ⟨cloneS c, hTime b, hSeq b, hDom b, 0, 0, []⟩) (b.drop 16)
    refine ⟨?_, hr, Nat.le_trans ho ?_⟩
    · rw [hdm]
      exact (keeps_clone hc _).trans hk
    · show 0 + (b.drop 16).length ≤ _
      rw [List.length_drop]; omega
end Go.Proofs.YtnajpmepcffnaaaGreatDoor
end

section
/- law17: the flows that are told are small. -/
namespace Go.Proofs.YtnajpmepcffnaaaGreatDoor
open Go.Ve

structure RSm2 (r : Rc) : Prop where
  a0 : r.a0.n < 2 ^ 128 ∧ r.a0.path.length ≤ 1048576
  a1 : r.a1.n < 2 ^ 128 ∧ r.a1.path.length ≤ 1048576
  p0 : r.p0.n < 2 ^ 128 ∧ r.p0.path.length ≤ 1048576
  p1 : r.p1.n < 2 ^ 128 ∧ r.p1.path.length ≤ 1048576
theorem RSm2.small {r : Rc} (h : RSm2 r) : RSm r := ⟨⟨h.a0.1, by have := h.a0.2; omega⟩, ⟨h.a1.1, by have := h.a1.2; omega⟩, ⟨h.p0.1, by have := h.p0.2; omega⟩, ⟨h.p1.1, by have := h.p1.2; omega⟩⟩
theorem addrK_small {v : Bs} (h : v.length = 4 ∨ v.length = 16) : (addrK v).n < 2 ^ 128 ∧ (addrK v).path.length ≤ 1048576 := by
  have hv := valB_lt v
  unfold addrK
  rcases h with h | h
  · rw [if_pos h]
    rw [h] at hv
    refine ⟨?_, Nat.zero_le _⟩
    show valB v * 2 ^ 96 < 2 ^ 128
    have : (2 : Nat) ^ 128 = 2 ^ 32 * 2 ^ 96 := by decide
    rw [this]
    exact Nat.mul_lt_mul_of_pos_right hv (Nat.two_pow_pos 96)
  · rw [if_neg (by omega)]
    rw [h] at hv
    exact ⟨hv, Nat.zero_le _⟩
theorem upd_small {s : Sc} {v : Bs} {g : Rc} (h : setE s v = 0) (hv : v.length ≤ 1048576) (hg : RSm2 g) : RSm2 (updR s v g) := by
  obtain ⟨g1, g2, g3, g4⟩ := hg
  unfold setE at h
  have hl : ¬ (saysS s = -1 ∨ s.len ≠ 65535 ∧ (v.length : Int) ≠ s.len) := fun hc => by rw [if_pos hc] at h; cases h
  have hp : (ofPathK (pathT s v)).n < 2 ^ 128 ∧ (ofPathK (pathT s v)).path.length ≤ 1048576 := ⟨Nat.two_pow_pos 128, Nat.le_trans (pathT_len s v) hv⟩
  unfold updR
  rcases says_cases s with hs | hs | ⟨_, hs | hs | hs | hs | hs | hs | hs | hs⟩
  · omega
  · rw [hs]; exact ⟨g1, g2, g3, g4⟩
  · rw [hs.1]; exact ⟨g1, g2, g3, g4⟩
  · rw [hs.1]; exact ⟨g1, g2, g3, g4⟩
  · have := addrK_small (v := v) (.inl (by omega))
    rw [hs.1]; exact ⟨this, g2, g3, g4⟩
  · have := addrK_small (v := v) (.inl (by omega))
    rw [hs.1]; exact ⟨g1, this, g3, g4⟩
  · have := addrK_small (v := v) (.inr (by omega))
    rw [hs.1]; exact ⟨this, g2, g3, g4⟩
  · have := addrK_small (v := v) (.inr (by omega))
    rw [hs.1]; exact ⟨g1, this, g3, g4⟩
  · rw [hs]; exact ⟨g1, g2, hp, g4⟩
  · rw [hs]; exact ⟨g1, g2, g3, hp⟩
theorem rec_small : ∀ (fs : List Sc) (bs : Bs) (f : Rc), bs.length ≤ 1048576 → RSm2 f → (recF fs bs f).2.1 = 0 → RSm2 (recF fs bs f).1
  | [], _, _, _, h, _ => h
  | s :: r, bs, f, hb, h, h0 => by
    unfold recF at h0 ⊢
    have hl := value_le s bs 0
    generalize valueF s bs 0 = q0 at h0 hl ⊢
    obtain ⟨v, b1, e1⟩ := q0
    dsimp only at h0 hl ⊢
    by_cases h1 : e1 ≠ 0
    · rw [if_pos h1] at h0; exact absurd h0 h1
    · rw [if_neg h1] at h0
      rw [if_neg h1]
      by_cases h2 : setE s v ≠ 0
      · rw [if_pos h2] at h0; exact absurd h0 h2
      · rw [if_neg h2] at h0
        rw [if_neg h2]
        exact rec_small r b1 _ (by omega) (upd_small (Decidable.not_not.1 h2) (by omega) h) h0
theorem rec_rest : ∀ (fs : List Sc) (bs : Bs) (f : Rc), (recF fs bs f).2.2.length ≤ bs.length
  | [], _, _ => Nat.le_refl _
  | s :: r, bs, f => by
    unfold recF
    have hl := value_le s bs 0
    generalize valueF s bs 0 = q0 at hl ⊢
    obtain ⟨v, b1, e1⟩ := q0
    dsimp only at hl ⊢
    split
    · exact hl.2
    · split
      · exact hl.2
      · exact Nat.le_trans (rec_rest r b1 _) hl.2
theorem zero_small : RSm2 zeroR := ⟨⟨Nat.two_pow_pos 128, Nat.zero_le _⟩, ⟨Nat.two_pow_pos 128, Nat.zero_le _⟩, ⟨Nat.two_pow_pos 128, Nat.zero_le _⟩, ⟨Nat.two_pow_pos 128, Nat.zero_le _⟩⟩
theorem recs_small : ∀ (n : Nat) (fs : List Sc) (bs : Bs) (out : List Rc), bs.length ≤ 1048576 → (∀ r ∈ out, RSm2 r) → ∀ r ∈ (recsF n fs bs out).1, RSm2 r
  | 0, _, _, _, _, h => h
  | n + 1, fs, bs, out, hb, h => by
    unfold recsF
    split
    · exact h
    · have h1 := rec_small fs bs zeroR hb zero_small
      have h3 := rec_rest fs bs zeroR
      generalize recF fs bs zeroR = q0 at *
      obtain ⟨f, er, b1⟩ := q0
      dsimp only at h1 h3 ⊢
      split
      · exact h
      · rename_i h2
        refine recs_small n fs b1 _ (by omega) fun r hr => ?_
        rcases List.mem_append.1 hr with hr | hr
        · exact h r hr
        · rw [List.mem_singleton.1 hr]; exact h1 (Decidable.not_not.1 h2)
theorem setF_small {σ : Type} (O : Ops σ) (d : Rd σ) (id : Nat) (b : Bs) (hb : b.length ≤ 1048576) (h : ∀ r ∈ d.out, RSm2 r) : ∀ r ∈ (setF O d id b).1.out, RSm2 r := by
  unfold setF
  split
  · exact h
  · split
    · exact h
    · split
      · exact h
      · unfold recordsF
        split
        · exact h
        · split
          · exact h
          · exact recs_small _ _ _ _ hb h
theorem sets_small {σ : Type} (O : Ops σ) : ∀ (n : Nat) (d : Rd σ) (bs : Bs), bs.length ≤ 1048576 → (∀ r ∈ d.out, RSm2 r) → ∀ r ∈ (setsF O n d bs).1.out, RSm2 r
  | 0, _, _, _, h => h
  | n + 1, d, bs, hb, h => by
    unfold setsF
    split
    · exact h
    · split
      · exact h
      · split
        · exact h
        · split
          · exact h
          · have h1 := setF_small O d (idB bs) ((bs.drop 4).take (cntB bs - 4)) (by simp only [List.length_take, List.length_drop]; omega) h
            generalize setF O d (idB bs) ((bs.drop 4).take (cntB bs - 4)) = q0 at *
            obtain ⟨d1, er⟩ := q0
            dsimp only at h1 ⊢
            split
            · exact h1
            · exact sets_small O n d1 _ (by rw [List.length_drop]; omega) h1
theorem read_small {c : Cs} {b : Bs} (hb : b.length ≤ 1048576) : ∀ r ∈ (readM opC c b).1.out, RSm2 r := by
  unfold readM
  split
  · exact fun r hr => by cases hr
  · exact sets_small opC _ _ _ (by rw [List.length_drop]; omega) fun r hr => by cases hr
end Go.Proofs.YtnajpmepcffnaaaGreatDoor
end

section
/- law17: IpfixApart, behind the first message. -/
namespace Go.Proofs.YtnajpmepcffnaaaGreatDoor
open Go.Ve
attribute [local irreducible] Sound
def tailC : Code → Code
  | .seq _ y => y
  | c => c
noncomputable def apC : Code := tailC (tailC (tailC (Tryz.f6.body.getD .skip)))

set_option maxHeartbeats 8000000 in
theorem apBadF (es : Es) (clk : Nat) (hc : CI ⟨false, es, clk⟩) (b : Bs) (hb : b.length ≤ 1048576) (h0 : (readM opC (cloneS ⟨false, es, clk⟩) b).2 ≠ 0) :
    Sound P Tryz.f6.ntmps none 0 apC (PPost ty Tryz.f6.results.toList (.bool true)) ⟨envL [(1, .sl (bcl b)), (5, .ptr 0 0)], (CHp es clk)⟩ := by
  have qL : DCall P 15 [.ptr 0 0] (CHp es clk) (.sl (hdl (listE es))) (CHp es clk) := list_ok ⟨false, es, clk⟩ hc
  have qR : DCall P 8 [.ptr 0 0, .sl (bcl b)] (CHp es clk) (badV (readM opC (cloneS ⟨false, es, clk⟩) b).2) (CHp es clk) := (ipRead_ok ⟨false, es, clk⟩ hc b (by omega)).1 h0
  have qS := sameAll_refl (listE es) hc.list.2.1 (by have : (listE es).length ≤ 64 := hc.list.2.2.2; omega)
  have qa := alive_17
  unfold badV hv0 at qR
  generalize (readM opC (cloneS ⟨false, es, clk⟩) b).2 = er at *
  generalize listE es = G at *
  refine Sound.awp tok mixed ?_
  (conv => whnf); (repeat' ((with_reducible first | refine Box.mk ?_ | refine And.intro (fun _ => ?_) (fun _ => ?_) | fail) <;> conv => whnf))
  all_goals try contradiction
  refine aW [0, 1] qL rfl rfl rfl ?_
  (conv => whnf); repeat' ((with_reducible refine Box.mk ?_) <;> conv => whnf)
  refine aW [0, 1] qR rfl rfl rfl ?_
  (conv => whnf); (repeat' ((first | (with_reducible first | refine Box.mk ?_ | refine And.intro (fun _ => ?_) (fun _ => ?_) | fail) | ((with_reducible show ACall _ _ _ _ _); refine ACall.of_pure (by assumption) (by rfl) ?_) | fail) <;> conv => whnf))
  · exact absurd (by assumption) h0
  all_goals try contradiction
  refine aW [0, 1] qL rfl rfl rfl ?_
  (conv => whnf); (repeat' ((first | (with_reducible refine Box.mk ?_) | ((with_reducible show ACall _ _ _ _ _); refine ACall.of_pure (by assumption) (by rfl) ?_) | fail) <;> conv => whnf))
  rfl

set_option maxHeartbeats 8000000 in
theorem apGoodFF (es : Es) (clk : Nat) (hc : CI ⟨false, es, clk⟩) (b : Bs) (es2 : Es) (clk2 ti sq dm lo il : Nat) (ou : List Rc) (hc2 : CI ⟨false, es2, clk2⟩) (hk : Keeps dm ⟨false, es, clk⟩ ⟨false, es2, clk2⟩) (ho : ∀ r ∈ ou, rightR r = true) (hs : ∀ r ∈ ou, RSm2 r) (hol : ou.length ≤ 1000000000)
    (qR : DCall P 8 [.ptr 0 0, .sl (bcl b)] (CHp es clk) (goodV 2 ⟨⟨false, es2, clk2⟩, ti, sq, dm, lo, il, ou⟩) ((CHp es clk) ++ [.box 67 [.own 3], .map pk2 (ces es2) clk2])) :
    Sound P Tryz.f6.ntmps none 0 apC (PPost ty Tryz.f6.results.toList (.bool true)) ⟨envL [(1, .sl (bcl b)), (5, .ptr 0 0)], (CHp es clk)⟩ := by
  have qL : DCall P 15 [.ptr 0 0] (CHp es clk) (.sl (hdl (listE es))) (CHp es clk) := list_ok ⟨false, es, clk⟩ hc
  have qL2 : DCall P 15 [.ptr 0 0] (CHp es2 clk2) (.sl (hdl (listE es2))) (CHp es2 clk2) := list_ok ⟨false, es2, clk2⟩ hc2
  have qS := sameAll_refl (listE es) hc.list.2.1 (by have : (listE es).length ≤ 64 := hc.list.2.2.2; omega)
  have qa := alive_17
  have qF : ∀ (d : Nat) (i : Int), DCall P 18 [.ptr 0 0, .int .u32 (d : Int), .int .i64 i] (CHp es clk) (foundV (findE es (d, i))) (CHp es clk) := fun d i => find_ok ⟨false, es, clk⟩ hc d i
  have qF2 : ∀ (d : Nat) (i : Int), DCall P 18 [.ptr 0 0, .int .u32 (d : Int), .int .i64 i] (CHp es2 clk2) (foundV (findE es2 (d, i))) (CHp es2 clk2) := fun d i => find_ok ⟨false, es2, clk2⟩ hc2 d i
  have k1 : ∀ g ∈ listE es2, g.dom ≠ dm → findE es (g.dom, g.t.id) = some g := fun g hg hd => keeps_find hc hc2 hk hg hd
  have k2 : ∀ g ∈ listE es, g.dom ≠ dm → findE es2 (g.dom, g.t.id) = some g := fun g hg hd => keeps_find hc2 hc hk.symm hg hd
  have r1 : ∀ g ∈ listE es2, rightT g.t = true := hc2.list.2.1
  have l1 : (listE es).length ≤ 64 := hc.list.2.2.2
  have l2 : (listE es2).length ≤ 64 := hc2.list.2.2.2
  unfold goodV hvR at qR
  dsimp only at qR
  generalize listE es = G at *
  generalize listE es2 = G2 at *
  have hgl := hdl_len G
  have hgl2 := hdl_len G2
  have hrl := rcl_len ou
  refine Sound.awp tok mixed ?_
  (conv => whnf); (repeat' ((with_reducible first | refine Box.mk ?_ | refine And.intro (fun _ => ?_) (fun _ => ?_) | fail) <;> conv => whnf))
  all_goals try contradiction
  refine aW [0, 1] qL rfl rfl rfl ?_
  (conv => whnf); repeat' ((with_reducible refine Box.mk ?_) <;> conv => whnf)
  refine aW [0, 1] qR rfl rfl rfl ?_
  (conv => whnf); (repeat' ((first | (with_reducible first | refine Box.mk ?_ | refine And.intro (fun _ => ?_) (fun _ => ?_) | fail) | ((with_reducible show ACall _ _ _ _ _); refine ACall.of_pure (by assumption) (by rfl) ?_) | fail) <;> conv => whnf))
  all_goals try exact absurd rfl (by assumption)
  refine aloop (fun i : Nat => i ≤ ou.length) (fun i => ⟨envL [(5, .ptr 0 0), (9, .sl (hdl G)), (10, .ptr 2 0), (11, .sl (rcl ou)), (12, .ptr 4 0), (14, .int .i64 (i : Int))], [.box 67 [.own 1], .map pk2 (ces es) clk, .box 67 [.own 3], .map pk2 (ces es2) clk2, .box 29 [.int .u32 (ti : Int), .int .u32 (sq : Int), .int .u32 (dm : Int), .int .i64 (lo : Int), .int .i64 (il : Int)]]⟩) (fun i => ou.length - i) 0 (Nat.zero_le _) (weak_ren_to [(0, true), (1, true), (2, true), (3, true), (4, true)] rfl rfl rfl ⟨rfl, rfl, rfl, rfl, rfl, rfl, trivial⟩) ?_
  intro i hi
  by_cases hlt : i < ou.length
  · have hx := List.getElem?_eq_getElem hlt
    have hor := ho _ (List.mem_of_getElem? hx)
    have hsm := hs _ (List.mem_of_getElem? hx)
    generalize ou[i] = r at *
    have hg : (rcl ou)[(i : Int).toNat]? = some (rcc r) := by rw [Int.toNat_natCast, rcl, List.getElem?_map, hx]; rfl
    have q5 := fFlowRight_ok r hsm.small
    rw [hor] at q5
    have hlt2 : (i : Int) < ((rcl ou).length : Int) := by omega
    (conv => whnf); (repeat' ((with_reducible first | refine Box.mk ?_ | refine And.intro (fun _ => ?_) (fun _ => ?_) | fail) <;> conv => whnf))
    all_goals try exact absurd hlt2 (by assumption)
    refine ⟨by omega, rcc r, hg, rfl, ?_⟩
    (conv => whnf); (repeat' ((first | (with_reducible refine Box.mk ?_) | ((with_reducible show ACall _ _ _ _ _); refine ACall.of_pure (by assumption) (by rfl) ?_) | fail) <;> conv => whnf))
    all_goals try (exact absurd rfl (by assumption))
    exact ⟨i + 1, hlt, by omega, weak_ren_to [(0, true), (1, true), (2, true), (3, true), (4, true)] rfl rfl rfl ⟨rfl, rfl, rfl, rfl, rfl, wrap_nat (m := 1) (by omega), trivial⟩⟩
  · have : i = ou.length := by omega
    subst this
    (conv => whnf); (repeat' ((with_reducible first | refine Box.mk ?_ | refine And.intro (fun _ => ?_) (fun _ => ?_) | fail) <;> conv => whnf))
    · exfalso; rename_i h; have h : ((ou.length : Nat) : Int) < ((rcl ou).length : Int) := h; omega
    all_goals try contradiction
    refine aW [2, 3] qL2 rfl rfl rfl ?_
    (conv => whnf); repeat' ((with_reducible refine Box.mk ?_) <;> conv => whnf)
    refine aloop (fun i : Nat => i ≤ G2.length) (fun i => ⟨envL [(5, .ptr 0 0), (9, .sl (hdl G)), (10, .ptr 2 0), (12, .ptr 4 0), (15, .sl (hdl G2)), (16, .int .i64 (i : Int))], [.box 67 [.own 1], .map pk2 (ces es) clk, .box 67 [.own 3], .map pk2 (ces es2) clk2, .box 29 [.int .u32 (ti : Int), .int .u32 (sq : Int), .int .u32 (dm : Int), .int .i64 (lo : Int), .int .i64 (il : Int)]]⟩) (fun i => G2.length - i) 0 (Nat.zero_le _) (weak_ren_to [(0, true), (1, true), (2, true), (3, true), (4, true)] rfl rfl rfl ⟨rfl, rfl, rfl, rfl, rfl, rfl, trivial⟩) ?_
    intro i hi
    by_cases hlt : i < G2.length
    · have hx := List.getElem?_eq_getElem hlt
      have hk1 := k1 _ (List.mem_of_getElem? hx)
      have hr1 := r1 _ (List.mem_of_getElem? hx)
      generalize G2[i] = g at *
      have hg := hdl_get2 hx
      have q4 := same_refl g.t (by have := rightT_len hr1; omega)
      have q5 := qF g.dom g.t.id
      have hlt2 : (i : Int) < ((hdl G2).length : Int) := by omega
      by_cases hd : g.dom = dm
      · have hd2 : ((g.dom : Nat) : Int) = (dm : Int) := by rw [hd]
        cases hf : findE es (g.dom, g.t.id) with
        | none =>
          rw [hf] at q5
          have q5 : DCall P _ _ _ (.tup [ztv, .bool false]) _ := q5
          (conv => whnf); (repeat' ((with_reducible first | refine Box.mk ?_ | refine And.intro (fun _ => ?_) (fun _ => ?_) | fail) <;> conv => whnf))
          all_goals try exact absurd hlt2 (by assumption)
          refine ⟨[(16, [3, 5, 8, 11, 12])], by kernel_rfl, ?_⟩
          (conv => whnf); repeat' ((with_reducible refine Box.mk ?_) <;> conv => whnf)
          refine ⟨by omega, hdc g, hg, rfl, ?_⟩
          (conv => whnf); repeat' ((with_reducible refine Box.mk ?_) <;> conv => whnf)
          refine ⟨by omega, hdc g, hg, rfl, ?_⟩
          (conv => whnf); repeat' ((with_reducible refine Box.mk ?_) <;> conv => whnf)
          refine aDr [0, 1] q5 rfl rfl rfl rfl ?_
          (conv => whnf); repeat' ((with_reducible refine Box.mk ?_) <;> conv => whnf)
          refine ⟨⟨⟨by omega, _, hg, rfl, rfl, rfl⟩, ⟨rfl, rfl⟩, ⟨by omega, _, hg, rfl, rfl, rfl⟩, ⟨rfl, rfl⟩, aW [0, 1] q5 rfl rfl rfl ⟨rfl, rfl⟩, trivial⟩, ?_⟩
          (conv => whnf); repeat' ((with_reducible refine Box.mk ?_) <;> conv => whnf)
          refine ⟨[], by kernel_rfl, ?_⟩
          (conv => whnf); repeat' ((with_reducible refine Box.mk ?_) <;> conv => whnf)
          refine ⟨by omega, hdc g, hg, rfl, ?_⟩
          (conv => whnf); (repeat' ((with_reducible first | refine Box.mk ?_ | refine And.intro (fun _ => ?_) (fun _ => ?_) | fail) <;> conv => whnf))
          all_goals try exact absurd hd2 (by assumption)
          all_goals try exact absurd (by assumption) hd2
          exact ⟨i + 1, hlt, by omega, weak_ren_to [(0, true), (1, true), (2, true), (3, true), (4, true)] rfl rfl rfl ⟨rfl, rfl, rfl, rfl, rfl, wrap_nat (m := 1) (by omega), trivial⟩⟩
        | some h =>
          rw [hf] at q5
          have q5 : DCall P _ _ _ (.tup [tv h.t, .bool true]) _ := q5
          (conv => whnf); (repeat' ((with_reducible first | refine Box.mk ?_ | refine And.intro (fun _ => ?_) (fun _ => ?_) | fail) <;> conv => whnf))
          all_goals try exact absurd hlt2 (by assumption)
          refine ⟨[(16, [3, 5, 8, 11, 12])], by kernel_rfl, ?_⟩
          (conv => whnf); repeat' ((with_reducible refine Box.mk ?_) <;> conv => whnf)
          refine ⟨by omega, hdc g, hg, rfl, ?_⟩
          (conv => whnf); repeat' ((with_reducible refine Box.mk ?_) <;> conv => whnf)
          refine ⟨by omega, hdc g, hg, rfl, ?_⟩
          (conv => whnf); repeat' ((with_reducible refine Box.mk ?_) <;> conv => whnf)
          refine aDr [0, 1] q5 rfl rfl rfl rfl ?_
          (conv => whnf); repeat' ((with_reducible refine Box.mk ?_) <;> conv => whnf)
          refine ⟨⟨⟨by omega, _, hg, rfl, rfl, rfl⟩, ⟨rfl, rfl⟩, ⟨by omega, _, hg, rfl, rfl, rfl⟩, ⟨rfl, rfl⟩, aW [0, 1] q5 rfl rfl rfl ⟨rfl, rfl⟩, trivial⟩, ?_⟩
          (conv => whnf); repeat' ((with_reducible refine Box.mk ?_) <;> conv => whnf)
          refine ⟨[], by kernel_rfl, ?_⟩
          (conv => whnf); repeat' ((with_reducible refine Box.mk ?_) <;> conv => whnf)
          refine ⟨by omega, hdc g, hg, rfl, ?_⟩
          (conv => whnf); (repeat' ((with_reducible first | refine Box.mk ?_ | refine And.intro (fun _ => ?_) (fun _ => ?_) | fail) <;> conv => whnf))
          all_goals try exact absurd hd2 (by assumption)
          all_goals try exact absurd (by assumption) hd2
          exact ⟨i + 1, hlt, by omega, weak_ren_to [(0, true), (1, true), (2, true), (3, true), (4, true)] rfl rfl rfl ⟨rfl, rfl, rfl, rfl, rfl, wrap_nat (m := 1) (by omega), trivial⟩⟩
      · have hd2 : ¬ ((g.dom : Nat) : Int) = (dm : Int) := by omega
        rw [hk1 hd] at q5
        have q5 : DCall P _ _ _ (.tup [tv g.t, .bool true]) _ := q5
        (conv => whnf); (repeat' ((with_reducible first | refine Box.mk ?_ | refine And.intro (fun _ => ?_) (fun _ => ?_) | fail) <;> conv => whnf))
        all_goals try exact absurd hlt2 (by assumption)
        refine ⟨[(16, [3, 5, 8, 11, 12])], by kernel_rfl, ?_⟩
        (conv => whnf); repeat' ((with_reducible refine Box.mk ?_) <;> conv => whnf)
        refine ⟨by omega, hdc g, hg, rfl, ?_⟩
        (conv => whnf); repeat' ((with_reducible refine Box.mk ?_) <;> conv => whnf)
        refine ⟨by omega, hdc g, hg, rfl, ?_⟩
        (conv => whnf); repeat' ((with_reducible refine Box.mk ?_) <;> conv => whnf)
        refine aDr [0, 1] q5 rfl rfl rfl rfl ?_
        (conv => whnf); repeat' ((with_reducible refine Box.mk ?_) <;> conv => whnf)
        refine ⟨⟨⟨by omega, _, hg, rfl, rfl, rfl⟩, ⟨rfl, rfl⟩, ⟨by omega, _, hg, rfl, rfl, rfl⟩, ⟨rfl, rfl⟩, aW [0, 1] q5 rfl rfl rfl ⟨rfl, rfl⟩, trivial⟩, ?_⟩
        (conv => whnf); repeat' ((with_reducible refine Box.mk ?_) <;> conv => whnf)
        refine ⟨[], by kernel_rfl, ?_⟩
        (conv => whnf); repeat' ((with_reducible refine Box.mk ?_) <;> conv => whnf)
        refine ⟨by omega, hdc g, hg, rfl, ?_⟩
        (conv => whnf); (repeat' ((with_reducible first | refine Box.mk ?_ | refine And.intro (fun _ => ?_) (fun _ => ?_) | fail) <;> conv => whnf))
        all_goals try exact absurd hd2 (by assumption)
        all_goals try exact absurd (by assumption) hd2
        refine ⟨by omega, hdc g, hg, rfl, ?_⟩
        (conv => whnf); (repeat' ((first | (with_reducible refine Box.mk ?_) | ((with_reducible show Exists _); refine ⟨_, ACall.of_pure (by assumption) (by rfl) ⟨rfl, rfl⟩, ?_⟩) | fail) <;> conv => whnf))
        all_goals try exact absurd rfl (by assumption)
        exact ⟨i + 1, hlt, by omega, weak_ren_to [(0, true), (1, true), (2, true), (3, true), (4, true)] rfl rfl rfl ⟨rfl, rfl, rfl, rfl, rfl, wrap_nat (m := 1) (by omega), trivial⟩⟩
    · have : i = G2.length := by omega
      subst this
      (conv => whnf); (repeat' ((with_reducible first | refine Box.mk ?_ | refine And.intro (fun _ => ?_) (fun _ => ?_) | fail) <;> conv => whnf))
      · exfalso; rename_i h; have h : ((G2.length : Nat) : Int) < ((hdl G2).length : Int) := h; omega
      refine aloop (fun i : Nat => i ≤ G.length) (fun i => ⟨envL [(5, .ptr 0 0), (9, .sl (hdl G)), (10, .ptr 2 0), (12, .ptr 4 0), (19, .int .i64 (i : Int))], [.box 67 [.own 1], .map pk2 (ces es) clk, .box 67 [.own 3], .map pk2 (ces es2) clk2, .box 29 [.int .u32 (ti : Int), .int .u32 (sq : Int), .int .u32 (dm : Int), .int .i64 (lo : Int), .int .i64 (il : Int)]]⟩) (fun i => G.length - i) 0 (Nat.zero_le _) (weak_ren_to [(0, true), (1, true), (2, true), (3, true), (4, true)] rfl rfl rfl ⟨rfl, rfl, rfl, rfl, rfl, trivial⟩) ?_
      intro i hi
      by_cases hlt : i < G.length
      · have hx := List.getElem?_eq_getElem hlt
        have hk2 := k2 _ (List.mem_of_getElem? hx)
        generalize G[i] = g at *
        have hg := hdl_get2 hx
        have q5 := qF2 g.dom g.t.id
        have hlt2 : (i : Int) < ((hdl G).length : Int) := by omega
        by_cases hd : g.dom = dm
        · have hd2 : ((g.dom : Nat) : Int) = (dm : Int) := by rw [hd]
          cases hf : findE es2 (g.dom, g.t.id) with
          | none =>
            rw [hf] at q5
            have q5 : DCall P _ _ _ (.tup [ztv, .bool false]) _ := q5
            (conv => whnf); (repeat' ((first | (with_reducible first | refine Box.mk ?_ | refine And.intro (fun _ => ?_) (fun _ => ?_) | fail) | ((with_reducible show ACall _ _ _ _ _); refine ACall.of_pure (by assumption) (by rfl) ?_) | fail) <;> conv => whnf))
            all_goals try exact absurd hlt2 (by assumption)
            refine ⟨[(16, [3, 5, 8, 11, 12])], by kernel_rfl, ?_⟩
            (conv => whnf); repeat' ((with_reducible refine Box.mk ?_) <;> conv => whnf)
            refine ⟨by omega, hdc g, hg, rfl, ?_⟩
            (conv => whnf); repeat' ((with_reducible refine Box.mk ?_) <;> conv => whnf)
            refine ⟨by omega, hdc g, hg, rfl, ?_⟩
            (conv => whnf); repeat' ((with_reducible refine Box.mk ?_) <;> conv => whnf)
            refine aDr [2, 3] q5 rfl rfl rfl rfl ?_
            (conv => whnf); repeat' ((with_reducible refine Box.mk ?_) <;> conv => whnf)
            refine ⟨⟨⟨by omega, _, hg, rfl, rfl, rfl⟩, ⟨rfl, rfl⟩, ⟨by omega, _, hg, rfl, rfl, rfl⟩, ⟨rfl, rfl⟩, aW [2, 3] q5 rfl rfl rfl ⟨rfl, rfl⟩, trivial⟩, ?_⟩
            (conv => whnf); repeat' ((with_reducible refine Box.mk ?_) <;> conv => whnf)
            refine ⟨[], by kernel_rfl, ?_⟩
            (conv => whnf); repeat' ((with_reducible refine Box.mk ?_) <;> conv => whnf)
            refine ⟨by omega, hdc g, hg, rfl, ?_⟩
            (conv => whnf); (repeat' ((with_reducible first | refine Box.mk ?_ | refine And.intro (fun _ => ?_) (fun _ => ?_) | fail) <;> conv => whnf))
            all_goals try exact absurd hd2 (by assumption)
            all_goals try exact absurd (by assumption) hd2
            exact ⟨i + 1, hlt, by omega, weak_ren_to [(0, true), (1, true), (2, true), (3, true), (4, true)] rfl rfl rfl ⟨rfl, rfl, rfl, rfl, wrap_nat (m := 1) (by omega), trivial⟩⟩
          | some h =>
            rw [hf] at q5
            have q5 : DCall P _ _ _ (.tup [tv h.t, .bool true]) _ := q5
            (conv => whnf); (repeat' ((first | (with_reducible first | refine Box.mk ?_ | refine And.intro (fun _ => ?_) (fun _ => ?_) | fail) | ((with_reducible show ACall _ _ _ _ _); refine ACall.of_pure (by assumption) (by rfl) ?_) | fail) <;> conv => whnf))
            all_goals try exact absurd hlt2 (by assumption)
            refine ⟨[(16, [3, 5, 8, 11, 12])], by kernel_rfl, ?_⟩
            (conv => whnf); repeat' ((with_reducible refine Box.mk ?_) <;> conv => whnf)
            refine ⟨by omega, hdc g, hg, rfl, ?_⟩
            (conv => whnf); repeat' ((with_reducible refine Box.mk ?_) <;> conv => whnf)
            refine ⟨by omega, hdc g, hg, rfl, ?_⟩
            (conv => whnf); repeat' ((with_reducible refine Box.mk ?_) <;> conv => whnf)
            refine aDr [2, 3] q5 rfl rfl rfl rfl ?_
            (conv => whnf); repeat' ((with_reducible refine Box.mk ?_) <;> conv => whnf)
            refine ⟨⟨⟨by omega, _, hg, rfl, rfl, rfl⟩, ⟨rfl, rfl⟩, ⟨by omega, _, hg, rfl, rfl, rfl⟩, ⟨rfl, rfl⟩, aW [2, 3] q5 rfl rfl rfl ⟨rfl, rfl⟩, trivial⟩, ?_⟩
            (conv => whnf); repeat' ((with_reducible refine Box.mk ?_) <;> conv => whnf)
            refine ⟨[], by kernel_rfl, ?_⟩
            (conv => whnf); repeat' ((with_reducible refine Box.mk ?_) <;> conv => whnf)
            refine ⟨by omega, hdc g, hg, rfl, ?_⟩
            (conv => whnf); (repeat' ((with_reducible first | refine Box.mk ?_ | refine And.intro (fun _ => ?_) (fun _ => ?_) | fail) <;> conv => whnf))
            all_goals try exact absurd hd2 (by assumption)
            all_goals try exact absurd (by assumption) hd2
            exact ⟨i + 1, hlt, by omega, weak_ren_to [(0, true), (1, true), (2, true), (3, true), (4, true)] rfl rfl rfl ⟨rfl, rfl, rfl, rfl, wrap_nat (m := 1) (by omega), trivial⟩⟩
        · have hd2 : ¬ ((g.dom : Nat) : Int) = (dm : Int) := by omega
          rw [hk2 hd] at q5
          have q5 : DCall P _ _ _ (.tup [tv g.t, .bool true]) _ := q5
          (conv => whnf); (repeat' ((first | (with_reducible first | refine Box.mk ?_ | refine And.intro (fun _ => ?_) (fun _ => ?_) | fail) | ((with_reducible show ACall _ _ _ _ _); refine ACall.of_pure (by assumption) (by rfl) ?_) | fail) <;> conv => whnf))
          all_goals try exact absurd hlt2 (by assumption)
          refine ⟨[(16, [3, 5, 8, 11, 12])], by kernel_rfl, ?_⟩
          (conv => whnf); repeat' ((with_reducible refine Box.mk ?_) <;> conv => whnf)
          refine ⟨by omega, hdc g, hg, rfl, ?_⟩
          (conv => whnf); repeat' ((with_reducible refine Box.mk ?_) <;> conv => whnf)
          refine ⟨by omega, hdc g, hg, rfl, ?_⟩
          (conv => whnf); repeat' ((with_reducible refine Box.mk ?_) <;> conv => whnf)
          refine aDr [2, 3] q5 rfl rfl rfl rfl ?_
          (conv => whnf); repeat' ((with_reducible refine Box.mk ?_) <;> conv => whnf)
          refine ⟨⟨⟨by omega, _, hg, rfl, rfl, rfl⟩, ⟨rfl, rfl⟩, ⟨by omega, _, hg, rfl, rfl, rfl⟩, ⟨rfl, rfl⟩, aW [2, 3] q5 rfl rfl rfl ⟨rfl, rfl⟩, trivial⟩, ?_⟩
          (conv => whnf); repeat' ((with_reducible refine Box.mk ?_) <;> conv => whnf)
          refine ⟨[], by kernel_rfl, ?_⟩
          (conv => whnf); repeat' ((with_reducible refine Box.mk ?_) <;> conv => whnf)
          refine ⟨by omega, hdc g, hg, rfl, ?_⟩
          (conv => whnf); (repeat' ((with_reducible first | refine Box.mk ?_ | refine And.intro (fun _ => ?_) (fun _ => ?_) | fail) <;> conv => whnf))
          all_goals try exact absurd hd2 (by assumption)
          all_goals try exact absurd (by assumption) hd2
          exact ⟨i + 1, hlt, by omega, weak_ren_to [(0, true), (1, true), (2, true), (3, true), (4, true)] rfl rfl rfl ⟨rfl, rfl, rfl, rfl, wrap_nat (m := 1) (by omega), trivial⟩⟩
      · have : i = G.length := by omega
        subst this
        (conv => whnf); (repeat' ((first | (with_reducible first | refine Box.mk ?_ | refine And.intro (fun _ => ?_) (fun _ => ?_) | fail) | ((with_reducible show ACall _ _ _ _ _); refine ACall.of_pure (by assumption) (by rfl) ?_) | fail) <;> conv => whnf))
        · exfalso; rename_i h; have h : ((G.length : Nat) : Int) < ((hdl G).length : Int) := h; omega
        refine aW [0, 1] qL rfl rfl rfl ?_
        (conv => whnf); (repeat' ((first | (with_reducible refine Box.mk ?_) | ((with_reducible show ACall _ _ _ _ _); refine ACall.of_pure (by assumption) (by rfl) ?_) | fail) <;> conv => whnf))
        rfl

set_option maxHeartbeats 8000000 in
theorem apGoodFN (es : Es) (clk : Nat) (hc : CI ⟨false, es, clk⟩) (b : Bs) (es2 : Es) (clk2 ti sq dm lo il : Nat) (ou : List Rc) (hc2 : CI ⟨true, es2, clk2⟩) (hk : Keeps dm ⟨false, es, clk⟩ ⟨true, es2, clk2⟩) (ho : ∀ r ∈ ou, rightR r = true) (hs : ∀ r ∈ ou, RSm2 r) (hol : ou.length ≤ 1000000000)
    (qR : DCall P 8 [.ptr 0 0, .sl (bcl b)] (CHp es clk) (goodV 2 ⟨⟨true, es2, clk2⟩, ti, sq, dm, lo, il, ou⟩) ((CHp es clk) ++ [.box 67 [.nilm]])) :
    Sound P Tryz.f6.ntmps none 0 apC (PPost ty Tryz.f6.results.toList (.bool true)) ⟨envL [(1, .sl (bcl b)), (5, .ptr 0 0)], (CHp es clk)⟩ := by
  have qL : DCall P 15 [.ptr 0 0] (CHp es clk) (.sl (hdl (listE es))) (CHp es clk) := list_ok ⟨false, es, clk⟩ hc
  have qL2 : DCall P 15 [.ptr 0 0] [.box 67 [.nilm]] (.sl (hdl (listE es2))) [.box 67 [.nilm]] := list_ok ⟨true, es2, clk2⟩ hc2
  have qS := sameAll_refl (listE es) hc.list.2.1 (by have : (listE es).length ≤ 64 := hc.list.2.2.2; omega)
  have qa := alive_17
  have qF : ∀ (d : Nat) (i : Int), DCall P 18 [.ptr 0 0, .int .u32 (d : Int), .int .i64 i] (CHp es clk) (foundV (findE es (d, i))) (CHp es clk) := fun d i => find_ok ⟨false, es, clk⟩ hc d i
  have qF2 : ∀ (d : Nat) (i : Int), DCall P 18 [.ptr 0 0, .int .u32 (d : Int), .int .i64 i] [.box 67 [.nilm]] (foundV (findE es2 (d, i))) [.box 67 [.nilm]] := fun d i => find_ok ⟨true, es2, clk2⟩ hc2 d i
  have k1 : ∀ g ∈ listE es2, g.dom ≠ dm → findE es (g.dom, g.t.id) = some g := fun g hg hd => keeps_find hc hc2 hk hg hd
  have k2 : ∀ g ∈ listE es, g.dom ≠ dm → findE es2 (g.dom, g.t.id) = some g := fun g hg hd => keeps_find hc2 hc hk.symm hg hd
  have r1 : ∀ g ∈ listE es2, rightT g.t = true := hc2.list.2.1
  have l1 : (listE es).length ≤ 64 := hc.list.2.2.2
  have l2 : (listE es2).length ≤ 64 := hc2.list.2.2.2
  unfold goodV hvR at qR
  dsimp only at qR
  generalize listE es = G at *
  generalize listE es2 = G2 at *
  have hgl := hdl_len G
  have hgl2 := hdl_len G2
  have hrl := rcl_len ou
  refine Sound.awp tok mixed ?_
  (conv => whnf); (repeat' ((with_reducible first | refine Box.mk ?_ | refine And.intro (fun _ => ?_) (fun _ => ?_) | fail) <;> conv => whnf))
  all_goals try contradiction
  refine aW [0, 1] qL rfl rfl rfl ?_
  (conv => whnf); repeat' ((with_reducible refine Box.mk ?_) <;> conv => whnf)
  refine aW [0, 1] qR rfl rfl rfl ?_
  (conv => whnf); (repeat' ((first | (with_reducible first | refine Box.mk ?_ | refine And.intro (fun _ => ?_) (fun _ => ?_) | fail) | ((with_reducible show ACall _ _ _ _ _); refine ACall.of_pure (by assumption) (by rfl) ?_) | fail) <;> conv => whnf))
  all_goals try exact absurd rfl (by assumption)
  refine aloop (fun i : Nat => i ≤ ou.length) (fun i => ⟨envL [(5, .ptr 0 0), (9, .sl (hdl G)), (10, .ptr 2 0), (11, .sl (rcl ou)), (12, .ptr 3 0), (14, .int .i64 (i : Int))], [.box 67 [.own 1], .map pk2 (ces es) clk, .box 67 [.nilm], .box 29 [.int .u32 (ti : Int), .int .u32 (sq : Int), .int .u32 (dm : Int), .int .i64 (lo : Int), .int .i64 (il : Int)]]⟩) (fun i => ou.length - i) 0 (Nat.zero_le _) (weak_ren_to [(0, true), (1, true), (2, true), (3, true)] rfl rfl rfl ⟨rfl, rfl, rfl, rfl, rfl, rfl, trivial⟩) ?_
  intro i hi
  by_cases hlt : i < ou.length
  · have hx := List.getElem?_eq_getElem hlt
    have hor := ho _ (List.mem_of_getElem? hx)
    have hsm := hs _ (List.mem_of_getElem? hx)
    generalize ou[i] = r at *
    have hg : (rcl ou)[(i : Int).toNat]? = some (rcc r) := by rw [Int.toNat_natCast, rcl, List.getElem?_map, hx]; rfl
    have q5 := fFlowRight_ok r hsm.small
    rw [hor] at q5
    have hlt2 : (i : Int) < ((rcl ou).length : Int) := by omega
    (conv => whnf); (repeat' ((with_reducible first | refine Box.mk ?_ | refine And.intro (fun _ => ?_) (fun _ => ?_) | fail) <;> conv => whnf))
    all_goals try exact absurd hlt2 (by assumption)
    refine ⟨by omega, rcc r, hg, rfl, ?_⟩
    (conv => whnf); (repeat' ((first | (with_reducible refine Box.mk ?_) | ((with_reducible show ACall _ _ _ _ _); refine ACall.of_pure (by assumption) (by rfl) ?_) | fail) <;> conv => whnf))
    all_goals try (exact absurd rfl (by assumption))
    exact ⟨i + 1, hlt, by omega, weak_ren_to [(0, true), (1, true), (2, true), (3, true)] rfl rfl rfl ⟨rfl, rfl, rfl, rfl, rfl, wrap_nat (m := 1) (by omega), trivial⟩⟩
  · have : i = ou.length := by omega
    subst this
    (conv => whnf); (repeat' ((with_reducible first | refine Box.mk ?_ | refine And.intro (fun _ => ?_) (fun _ => ?_) | fail) <;> conv => whnf))
    · exfalso; rename_i h; have h : ((ou.length : Nat) : Int) < ((rcl ou).length : Int) := h; omega
    all_goals try contradiction
    refine aW [2] qL2 rfl rfl rfl ?_
    (conv => whnf); repeat' ((with_reducible refine Box.mk ?_) <;> conv => whnf)
    refine aloop (fun i : Nat => i ≤ G2.length) (fun i => ⟨envL [(5, .ptr 0 0), (9, .sl (hdl G)), (10, .ptr 2 0), (12, .ptr 3 0), (15, .sl (hdl G2)), (16, .int .i64 (i : Int))], [.box 67 [.own 1], .map pk2 (ces es) clk, .box 67 [.nilm], .box 29 [.int .u32 (ti : Int), .int .u32 (sq : Int), .int .u32 (dm : Int), .int .i64 (lo : Int), .int .i64 (il : Int)]]⟩) (fun i => G2.length - i) 0 (Nat.zero_le _) (weak_ren_to [(0, true), (1, true), (2, true), (3, true)] rfl rfl rfl ⟨rfl, rfl, rfl, rfl, rfl, rfl, trivial⟩) ?_
    intro i hi
    by_cases hlt : i < G2.length
    · have hx := List.getElem?_eq_getElem hlt
      have hk1 := k1 _ (List.mem_of_getElem? hx)
      have hr1 := r1 _ (List.mem_of_getElem? hx)
      generalize G2[i] = g at *
      have hg := hdl_get2 hx
      have q4 := same_refl g.t (by have := rightT_len hr1; omega)
      have q5 := qF g.dom g.t.id
      have hlt2 : (i : Int) < ((hdl G2).length : Int) := by omega
      by_cases hd : g.dom = dm
      · have hd2 : ((g.dom : Nat) : Int) = (dm : Int) := by rw [hd]
        cases hf : findE es (g.dom, g.t.id) with
        | none =>
          rw [hf] at q5
          have q5 : DCall P _ _ _ (.tup [ztv, .bool false]) _ := q5
          (conv => whnf); (repeat' ((with_reducible first | refine Box.mk ?_ | refine And.intro (fun _ => ?_) (fun _ => ?_) | fail) <;> conv => whnf))
          all_goals try exact absurd hlt2 (by assumption)
          refine ⟨[(16, [3, 5, 8, 11, 12])], by kernel_rfl, ?_⟩
          (conv => whnf); repeat' ((with_reducible refine Box.mk ?_) <;> conv => whnf)
          refine ⟨by omega, hdc g, hg, rfl, ?_⟩
          (conv => whnf); repeat' ((with_reducible refine Box.mk ?_) <;> conv => whnf)
          refine ⟨by omega, hdc g, hg, rfl, ?_⟩
          (conv => whnf); repeat' ((with_reducible refine Box.mk ?_) <;> conv => whnf)
          refine aDr [0, 1] q5 rfl rfl rfl rfl ?_
          (conv => whnf); repeat' ((with_reducible refine Box.mk ?_) <;> conv => whnf)
          refine ⟨⟨⟨by omega, _, hg, rfl, rfl, rfl⟩, ⟨rfl, rfl⟩, ⟨by omega, _, hg, rfl, rfl, rfl⟩, ⟨rfl, rfl⟩, aW [0, 1] q5 rfl rfl rfl ⟨rfl, rfl⟩, trivial⟩, ?_⟩
          (conv => whnf); repeat' ((with_reducible refine Box.mk ?_) <;> conv => whnf)
          refine ⟨[], by kernel_rfl, ?_⟩
          (conv => whnf); repeat' ((with_reducible refine Box.mk ?_) <;> conv => whnf)
          refine ⟨by omega, hdc g, hg, rfl, ?_⟩
          (conv => whnf); (repeat' ((with_reducible first | refine Box.mk ?_ | refine And.intro (fun _ => ?_) (fun _ => ?_) | fail) <;> conv => whnf))
          all_goals try exact absurd hd2 (by assumption)
          all_goals try exact absurd (by assumption) hd2
          exact ⟨i + 1, hlt, by omega, weak_ren_to [(0, true), (1, true), (2, true), (3, true)] rfl rfl rfl ⟨rfl, rfl, rfl, rfl, rfl, wrap_nat (m := 1) (by omega), trivial⟩⟩
        | some h =>
          rw [hf] at q5
          have q5 : DCall P _ _ _ (.tup [tv h.t, .bool true]) _ := q5
          (conv => whnf); (repeat' ((with_reducible first | refine Box.mk ?_ | refine And.intro (fun _ => ?_) (fun _ => ?_) | fail) <;> conv => whnf))
          all_goals try exact absurd hlt2 (by assumption)
          refine ⟨[(16, [3, 5, 8, 11, 12])], by kernel_rfl, ?_⟩
          (conv => whnf); repeat' ((with_reducible refine Box.mk ?_) <;> conv => whnf)
          refine ⟨by omega, hdc g, hg, rfl, ?_⟩
          (conv => whnf); repeat' ((with_reducible refine Box.mk ?_) <;> conv => whnf)
          refine ⟨by omega, hdc g, hg, rfl, ?_⟩
          (conv => whnf); repeat' ((with_reducible refine Box.mk ?_) <;> conv => whnf)
          refine aDr [0, 1] q5 rfl rfl rfl rfl ?_
          (conv => whnf); repeat' ((with_reducible refine Box.mk ?_) <;> conv => whnf)
          refine ⟨⟨⟨by omega, _, hg, rfl, rfl, rfl⟩, ⟨rfl, rfl⟩, ⟨by omega, _, hg, rfl, rfl, rfl⟩, ⟨rfl, rfl⟩, aW [0, 1] q5 rfl rfl rfl ⟨rfl, rfl⟩, trivial⟩, ?_⟩
          (conv => whnf); repeat' ((with_reducible refine Box.mk ?_) <;> conv => whnf)
          refine ⟨[], by kernel_rfl, ?_⟩
          (conv => whnf); repeat' ((with_reducible refine Box.mk ?_) <;> conv => whnf)
          refine ⟨by omega, hdc g, hg, rfl, ?_⟩
          (conv => whnf); (repeat' ((with_reducible first | refine Box.mk ?_ | refine And.intro (fun _ => ?_) (fun _ => ?_) | fail) <;> conv => whnf))
          all_goals try exact absurd hd2 (by assumption)
          all_goals try exact absurd (by assumption) hd2
          exact ⟨i + 1, hlt, by omega, weak_ren_to [(0, true), (1, true), (2, true), (3, true)] rfl rfl rfl ⟨rfl, rfl, rfl, rfl, rfl, wrap_nat (m := 1) (by omega), trivial⟩⟩
      · have hd2 : ¬ ((g.dom : Nat) : Int) = (dm : Int) := by omega
        rw [hk1 hd] at q5
        have q5 : DCall P _ _ _ (.tup [tv g.t, .bool true]) _ := q5
        (conv => whnf); (repeat' ((with_reducible first | refine Box.mk ?_ | refine And.intro (fun _ => ?_) (fun _ => ?_) | fail) <;> conv => whnf))
        all_goals try exact absurd hlt2 (by assumption)
        refine ⟨[(16, [3, 5, 8, 11, 12])], by kernel_rfl, ?_⟩
        (conv => whnf); repeat' ((with_reducible refine Box.mk ?_) <;> conv => whnf)
        refine ⟨by omega, hdc g, hg, rfl, ?_⟩
        (conv => whnf); repeat' ((with_reducible refine Box.mk ?_) <;> conv => whnf)
        refine ⟨by omega, hdc g, hg, rfl, ?_⟩
        (conv => whnf); repeat' ((with_reducible refine Box.mk ?_) <;> conv => whnf)
        refine aDr [0, 1] q5 rfl rfl rfl rfl ?_
        (conv => whnf); repeat' ((with_reducible refine Box.mk ?_) <;> conv => whnf)
        refine ⟨⟨⟨by omega, _, hg, rfl, rfl, rfl⟩, ⟨rfl, rfl⟩, ⟨by omega, _, hg, rfl, rfl, rfl⟩, ⟨rfl, rfl⟩, aW [0, 1] q5 rfl rfl rfl ⟨rfl, rfl⟩, trivial⟩, ?_⟩
        (conv => whnf); repeat' ((with_reducible refine Box.mk ?_) <;> conv => whnf)
        refine ⟨[], by kernel_rfl, ?_⟩
        (conv => whnf); repeat' ((with_reducible refine Box.mk ?_) <;> conv => whnf)
        refine ⟨by omega, hdc g, hg, rfl, ?_⟩
        (conv => whnf); (repeat' ((with_reducible first | refine Box.mk ?_ | refine And.intro (fun _ => ?_) (fun _ => ?_) | fail) <;> conv => whnf))
        all_goals try exact absurd hd2 (by assumption)
        all_goals try exact absurd (by assumption) hd2
        refine ⟨by omega, hdc g, hg, rfl, ?_⟩
        (conv => whnf); (repeat' ((first | (with_reducible refine Box.mk ?_) | ((with_reducible show Exists _); refine ⟨_, ACall.of_pure (by assumption) (by rfl) ⟨rfl, rfl⟩, ?_⟩) | fail) <;> conv => whnf))
        all_goals try exact absurd rfl (by assumption)
        exact ⟨i + 1, hlt, by omega, weak_ren_to [(0, true), (1, true), (2, true), (3, true)] rfl rfl rfl ⟨rfl, rfl, rfl, rfl, rfl, wrap_nat (m := 1) (by omega), trivial⟩⟩
    · have : i = G2.length := by omega
      subst this
      (conv => whnf); (repeat' ((with_reducible first | refine Box.mk ?_ | refine And.intro (fun _ => ?_) (fun _ => ?_) | fail) <;> conv => whnf))
      · exfalso; rename_i h; have h : ((G2.length : Nat) : Int) < ((hdl G2).length : Int) := h; omega
      refine aloop (fun i : Nat => i ≤ G.length) (fun i => ⟨envL [(5, .ptr 0 0), (9, .sl (hdl G)), (10, .ptr 2 0), (12, .ptr 3 0), (19, .int .i64 (i : Int))], [.box 67 [.own 1], .map pk2 (ces es) clk, .box 67 [.nilm], .box 29 [.int .u32 (ti : Int), .int .u32 (sq : Int), .int .u32 (dm : Int), .int .i64 (lo : Int), .int .i64 (il : Int)]]⟩) (fun i => G.length - i) 0 (Nat.zero_le _) (weak_ren_to [(0, true), (1, true), (2, true), (3, true)] rfl rfl rfl ⟨rfl, rfl, rfl, rfl, rfl, trivial⟩) ?_
      intro i hi
      by_cases hlt : i < G.length
      · have hx := List.getElem?_eq_getElem hlt
        have hk2 := k2 _ (List.mem_of_getElem? hx)
        generalize G[i] = g at *
        have hg := hdl_get2 hx
        have q5 := qF2 g.dom g.t.id
        have hlt2 : (i : Int) < ((hdl G).length : Int) := by omega
        by_cases hd : g.dom = dm
        · have hd2 : ((g.dom : Nat) : Int) = (dm : Int) := by rw [hd]
          cases hf : findE es2 (g.dom, g.t.id) with
          | none =>
            rw [hf] at q5
            have q5 : DCall P _ _ _ (.tup [ztv, .bool false]) _ := q5
            (conv => whnf); (repeat' ((first | (with_reducible first | refine Box.mk ?_ | refine And.intro (fun _ => ?_) (fun _ => ?_) | fail) | ((with_reducible show ACall _ _ _ _ _); refine ACall.of_pure (by assumption) (by rfl) ?_) | fail) <;> conv => whnf))
            all_goals try exact absurd hlt2 (by assumption)
            refine ⟨[(16, [3, 5, 8, 11, 12])], by kernel_rfl, ?_⟩
            (conv => whnf); repeat' ((with_reducible refine Box.mk ?_) <;> conv => whnf)
            refine ⟨by omega, hdc g, hg, rfl, ?_⟩
            (conv => whnf); repeat' ((with_reducible refine Box.mk ?_) <;> conv => whnf)
            refine ⟨by omega, hdc g, hg, rfl, ?_⟩
            (conv => whnf); repeat' ((with_reducible refine Box.mk ?_) <;> conv => whnf)
            refine aDr [2] q5 rfl rfl rfl rfl ?_
            (conv => whnf); repeat' ((with_reducible refine Box.mk ?_) <;> conv => whnf)
            refine ⟨⟨⟨by omega, _, hg, rfl, rfl, rfl⟩, ⟨rfl, rfl⟩, ⟨by omega, _, hg, rfl, rfl, rfl⟩, ⟨rfl, rfl⟩, aW [2] q5 rfl rfl rfl ⟨rfl, rfl⟩, trivial⟩, ?_⟩
            (conv => whnf); repeat' ((with_reducible refine Box.mk ?_) <;> conv => whnf)
            refine ⟨[], by kernel_rfl, ?_⟩
            (conv => whnf); repeat' ((with_reducible refine Box.mk ?_) <;> conv => whnf)
            refine ⟨by omega, hdc g, hg, rfl, ?_⟩
            (conv => whnf); (repeat' ((with_reducible first | refine Box.mk ?_ | refine And.intro (fun _ => ?_) (fun _ => ?_) | fail) <;> conv => whnf))
            all_goals try exact absurd hd2 (by assumption)
            all_goals try exact absurd (by assumption) hd2
            exact ⟨i + 1, hlt, by omega, weak_ren_to [(0, true), (1, true), (2, true), (3, true)] rfl rfl rfl ⟨rfl, rfl, rfl, rfl, wrap_nat (m := 1) (by omega), trivial⟩⟩
          | some h =>
            rw [hf] at q5
            have q5 : DCall P _ _ _ (.tup [tv h.t, .bool true]) _ := q5
            (conv => whnf); (repeat' ((first | (with_reducible first | refine Box.mk ?_ | refine And.intro (fun _ => ?_) (fun _ => ?_) | fail) | ((with_reducible show ACall _ _ _ _ _); refine ACall.of_pure (by assumption) (by rfl) ?_) | fail) <;> conv => whnf))
            all_goals try exact absurd hlt2 (by assumption)
            refine ⟨[(16, [3, 5, 8, 11, 12])], by kernel_rfl, ?_⟩
            (conv => whnf); repeat' ((with_reducible refine Box.mk ?_) <;> conv => whnf)
            refine ⟨by omega, hdc g, hg, rfl, ?_⟩
            (conv => whnf); repeat' ((with_reducible refine Box.mk ?_) <;> conv => whnf)
            refine ⟨by omega, hdc g, hg, rfl, ?_⟩
            (conv => whnf); repeat' ((with_reducible refine Box.mk ?_) <;> conv => whnf)
            refine aDr [2] q5 rfl rfl rfl rfl ?_
            (conv => whnf); repeat' ((with_reducible refine Box.mk ?_) <;> conv => whnf)
            refine ⟨⟨⟨by omega, _, hg, rfl, rfl, rfl⟩, ⟨rfl, rfl⟩, ⟨by omega, _, hg, rfl, rfl, rfl⟩, ⟨rfl, rfl⟩, aW [2] q5 rfl rfl rfl ⟨rfl, rfl⟩, trivial⟩, ?_⟩
            (conv => whnf); repeat' ((with_reducible refine Box.mk ?_) <;> conv => whnf)
            refine ⟨[], by kernel_rfl, ?_⟩
            (conv => whnf); repeat' ((with_reducible refine Box.mk ?_) <;> conv => whnf)
            refine ⟨by omega, hdc g, hg, rfl, ?_⟩
            (conv => whnf); (repeat' ((with_reducible first | refine Box.mk ?_ | refine And.intro (fun _ => ?_) (fun _ => ?_) | fail) <;> conv => whnf))
            all_goals try exact absurd hd2 (by assumption)
            all_goals try exact absurd (by assumption) hd2
            exact ⟨i + 1, hlt, by omega, weak_ren_to [(0, true), (1, true), (2, true), (3, true)] rfl rfl rfl ⟨rfl, rfl, rfl, rfl, wrap_nat (m := 1) (by omega), trivial⟩⟩
        · have hd2 : ¬ ((g.dom : Nat) : Int) = (dm : Int) := by omega
          rw [hk2 hd] at q5
          have q5 : DCall P _ _ _ (.tup [tv g.t, .bool true]) _ := q5
          (conv => whnf); (repeat' ((first | (with_reducible first | refine Box.mk ?_ | refine And.intro (fun _ => ?_) (fun _ => ?_) | fail) | ((with_reducible show ACall _ _ _ _ _); refine ACall.of_pure (by assumption) (by rfl) ?_) | fail) <;> conv => whnf))
          all_goals try exact absurd hlt2 (by assumption)
          refine ⟨[(16, [3, 5, 8, 11, 12])], by kernel_rfl, ?_⟩
          (conv => whnf); repeat' ((with_reducible refine Box.mk ?_) <;> conv => whnf)
          refine ⟨by omega, hdc g, hg, rfl, ?_⟩
          (conv => whnf); repeat' ((with_reducible refine Box.mk ?_) <;> conv => whnf)
          refine ⟨by omega, hdc g, hg, rfl, ?_⟩
          (conv => whnf); repeat' ((with_reducible refine Box.mk ?_) <;> conv => whnf)
          refine aDr [2] q5 rfl rfl rfl rfl ?_
          (conv => whnf); repeat' ((with_reducible refine Box.mk ?_) <;> conv => whnf)
          refine ⟨⟨⟨by omega, _, hg, rfl, rfl, rfl⟩, ⟨rfl, rfl⟩, ⟨by omega, _, hg, rfl, rfl, rfl⟩, ⟨rfl, rfl⟩, aW [2] q5 rfl rfl rfl ⟨rfl, rfl⟩, trivial⟩, ?_⟩
          (conv => whnf); repeat' ((with_reducible refine Box.mk ?_) <;> conv => whnf)
          refine ⟨[], by kernel_rfl, ?_⟩
          (conv => whnf); repeat' ((with_reducible refine Box.mk ?_) <;> conv => whnf)
          refine ⟨by omega, hdc g, hg, rfl, ?_⟩
          (conv => whnf); (repeat' ((with_reducible first | refine Box.mk ?_ | refine And.intro (fun _ => ?_) (fun _ => ?_) | fail) <;> conv => whnf))
          all_goals try exact absurd hd2 (by assumption)
          all_goals try exact absurd (by assumption) hd2
          exact ⟨i + 1, hlt, by omega, weak_ren_to [(0, true), (1, true), (2, true), (3, true)] rfl rfl rfl ⟨rfl, rfl, rfl, rfl, wrap_nat (m := 1) (by omega), trivial⟩⟩
      · have : i = G.length := by omega
        subst this
        (conv => whnf); (repeat' ((first | (with_reducible first | refine Box.mk ?_ | refine And.intro (fun _ => ?_) (fun _ => ?_) | fail) | ((with_reducible show ACall _ _ _ _ _); refine ACall.of_pure (by assumption) (by rfl) ?_) | fail) <;> conv => whnf))
        · exfalso; rename_i h; have h : ((G.length : Nat) : Int) < ((hdl G).length : Int) := h; omega
        refine aW [0, 1] qL rfl rfl rfl ?_
        (conv => whnf); (repeat' ((first | (with_reducible refine Box.mk ?_) | ((with_reducible show ACall _ _ _ _ _); refine ACall.of_pure (by assumption) (by rfl) ?_) | fail) <;> conv => whnf))
        rfl

set_option maxHeartbeats 8000000 in
theorem apBadN (es : Es) (clk : Nat) (hc : CI ⟨true, es, clk⟩) (b : Bs) (hb : b.length ≤ 1048576) (h0 : (readM opC (cloneS ⟨true, es, clk⟩) b).2 ≠ 0) :
    Sound P Tryz.f6.ntmps none 0 apC (PPost ty Tryz.f6.results.toList (.bool true)) ⟨envL [(1, .sl (bcl b)), (5, .ptr 0 0)], [.box 67 [.nilm]]⟩ := by
  have qL : DCall P 15 [.ptr 0 0] [.box 67 [.nilm]] (.sl (hdl (listE es))) [.box 67 [.nilm]] := list_ok ⟨true, es, clk⟩ hc
  have qR : DCall P 8 [.ptr 0 0, .sl (bcl b)] [.box 67 [.nilm]] (badV (readM opC (cloneS ⟨true, es, clk⟩) b).2) [.box 67 [.nilm]] := (ipRead_ok ⟨true, es, clk⟩ hc b (by omega)).1 h0
  have qS := sameAll_refl (listE es) hc.list.2.1 (by have : (listE es).length ≤ 64 := hc.list.2.2.2; omega)
  have qa := alive_17
  unfold badV hv0 at qR
  generalize (readM opC (cloneS ⟨true, es, clk⟩) b).2 = er at *
  generalize listE es = G at *
  refine Sound.awp tok mixed ?_
  (conv => whnf); (repeat' ((with_reducible first | refine Box.mk ?_ | refine And.intro (fun _ => ?_) (fun _ => ?_) | fail) <;> conv => whnf))
  all_goals try contradiction
  refine aW [0] qL rfl rfl rfl ?_
  (conv => whnf); repeat' ((with_reducible refine Box.mk ?_) <;> conv => whnf)
  refine aW [0] qR rfl rfl rfl ?_
  (conv => whnf); (repeat' ((first | (with_reducible first | refine Box.mk ?_ | refine And.intro (fun _ => ?_) (fun _ => ?_) | fail) | ((with_reducible show ACall _ _ _ _ _); refine ACall.of_pure (by assumption) (by rfl) ?_) | fail) <;> conv => whnf))
  · exact absurd (by assumption) h0
  all_goals try contradiction
  refine aW [0] qL rfl rfl rfl ?_
  (conv => whnf); (repeat' ((first | (with_reducible refine Box.mk ?_) | ((with_reducible show ACall _ _ _ _ _); refine ACall.of_pure (by assumption) (by rfl) ?_) | fail) <;> conv => whnf))
  rfl

set_option maxHeartbeats 8000000 in
theorem apGoodNF (es : Es) (clk : Nat) (hc : CI ⟨true, es, clk⟩) (b : Bs) (es2 : Es) (clk2 ti sq dm lo il : Nat) (ou : List Rc) (hc2 : CI ⟨false, es2, clk2⟩) (hk : Keeps dm ⟨true, es, clk⟩ ⟨false, es2, clk2⟩) (ho : ∀ r ∈ ou, rightR r = true) (hs : ∀ r ∈ ou, RSm2 r) (hol : ou.length ≤ 1000000000)
    (qR : DCall P 8 [.ptr 0 0, .sl (bcl b)] [.box 67 [.nilm]] (goodV 1 ⟨⟨false, es2, clk2⟩, ti, sq, dm, lo, il, ou⟩) ([.box 67 [.nilm]] ++ [.box 67 [.own 2], .map pk2 (ces es2) clk2])) :
    Sound P Tryz.f6.ntmps none 0 apC (PPost ty Tryz.f6.results.toList (.bool true)) ⟨envL [(1, .sl (bcl b)), (5, .ptr 0 0)], [.box 67 [.nilm]]⟩ := by
  have qL : DCall P 15 [.ptr 0 0] [.box 67 [.nilm]] (.sl (hdl (listE es))) [.box 67 [.nilm]] := list_ok ⟨true, es, clk⟩ hc
  have qL2 : DCall P 15 [.ptr 0 0] (CHp es2 clk2) (.sl (hdl (listE es2))) (CHp es2 clk2) := list_ok ⟨false, es2, clk2⟩ hc2
  have qS := sameAll_refl (listE es) hc.list.2.1 (by have : (listE es).length ≤ 64 := hc.list.2.2.2; omega)
  have qa := alive_17
  have qF : ∀ (d : Nat) (i : Int), DCall P 18 [.ptr 0 0, .int .u32 (d : Int), .int .i64 i] [.box 67 [.nilm]] (foundV (findE es (d, i))) [.box 67 [.nilm]] := fun d i => find_ok ⟨true, es, clk⟩ hc d i
  have qF2 : ∀ (d : Nat) (i : Int), DCall P 18 [.ptr 0 0, .int .u32 (d : Int), .int .i64 i] (CHp es2 clk2) (foundV (findE es2 (d, i))) (CHp es2 clk2) := fun d i => find_ok ⟨false, es2, clk2⟩ hc2 d i
  have k1 : ∀ g ∈ listE es2, g.dom ≠ dm → findE es (g.dom, g.t.id) = some g := fun g hg hd => keeps_find hc hc2 hk hg hd
  have k2 : ∀ g ∈ listE es, g.dom ≠ dm → findE es2 (g.dom, g.t.id) = some g := fun g hg hd => keeps_find hc2 hc hk.symm hg hd
  have r1 : ∀ g ∈ listE es2, rightT g.t = true := hc2.list.2.1
  have l1 : (listE es).length ≤ 64 := hc.list.2.2.2
  have l2 : (listE es2).length ≤ 64 := hc2.list.2.2.2
  unfold goodV hvR at qR
  dsimp only at qR
  generalize listE es = G at *
  generalize listE es2 = G2 at *
  have hgl := hdl_len G
  have hgl2 := hdl_len G2
  have hrl := rcl_len ou
  refine Sound.awp tok mixed ?_
  (conv => whnf); (repeat' ((with_reducible first | refine Box.mk ?_ | refine And.intro (fun _ => ?_) (fun _ => ?_) | fail) <;> conv => whnf))
  all_goals try contradiction
  refine aW [0] qL rfl rfl rfl ?_
  (conv => whnf); repeat' ((with_reducible refine Box.mk ?_) <;> conv => whnf)
  refine aW [0] qR rfl rfl rfl ?_
  (conv => whnf); (repeat' ((first | (with_reducible first | refine Box.mk ?_ | refine And.intro (fun _ => ?_) (fun _ => ?_) | fail) | ((with_reducible show ACall _ _ _ _ _); refine ACall.of_pure (by assumption) (by rfl) ?_) | fail) <;> conv => whnf))
  all_goals try exact absurd rfl (by assumption)
  refine aloop (fun i : Nat => i ≤ ou.length) (fun i => ⟨envL [(5, .ptr 0 0), (9, .sl (hdl G)), (10, .ptr 1 0), (11, .sl (rcl ou)), (12, .ptr 3 0), (14, .int .i64 (i : Int))], [.box 67 [.nilm], .box 67 [.own 2], .map pk2 (ces es2) clk2, .box 29 [.int .u32 (ti : Int), .int .u32 (sq : Int), .int .u32 (dm : Int), .int .i64 (lo : Int), .int .i64 (il : Int)]]⟩) (fun i => ou.length - i) 0 (Nat.zero_le _) (weak_ren_to [(0, true), (1, true), (2, true), (3, true)] rfl rfl rfl ⟨rfl, rfl, rfl, rfl, rfl, rfl, trivial⟩) ?_
  intro i hi
  by_cases hlt : i < ou.length
  · have hx := List.getElem?_eq_getElem hlt
    have hor := ho _ (List.mem_of_getElem? hx)
    have hsm := hs _ (List.mem_of_getElem? hx)
    generalize ou[i] = r at *
    have hg : (rcl ou)[(i : Int).toNat]? = some (rcc r) := by rw [Int.toNat_natCast, rcl, List.getElem?_map, hx]; rfl
    have q5 := fFlowRight_ok r hsm.small
    rw [hor] at q5
    have hlt2 : (i : Int) < ((rcl ou).length : Int) := by omega
    (conv => whnf); (repeat' ((with_reducible first | refine Box.mk ?_ | refine And.intro (fun _ => ?_) (fun _ => ?_) | fail) <;> conv => whnf))
    all_goals try exact absurd hlt2 (by assumption)
    refine ⟨by omega, rcc r, hg, rfl, ?_⟩
    (conv => whnf); (repeat' ((first | (with_reducible refine Box.mk ?_) | ((with_reducible show ACall _ _ _ _ _); refine ACall.of_pure (by assumption) (by rfl) ?_) | fail) <;> conv => whnf))
    all_goals try (exact absurd rfl (by assumption))
    exact ⟨i + 1, hlt, by omega, weak_ren_to [(0, true), (1, true), (2, true), (3, true)] rfl rfl rfl ⟨rfl, rfl, rfl, rfl, rfl, wrap_nat (m := 1) (by omega), trivial⟩⟩
  · have : i = ou.length := by omega
    subst this
    (conv => whnf); (repeat' ((with_reducible first | refine Box.mk ?_ | refine And.intro (fun _ => ?_) (fun _ => ?_) | fail) <;> conv => whnf))
    · exfalso; rename_i h; have h : ((ou.length : Nat) : Int) < ((rcl ou).length : Int) := h; omega
    all_goals try contradiction
    refine aW [1, 2] qL2 rfl rfl rfl ?_
    (conv => whnf); repeat' ((with_reducible refine Box.mk ?_) <;> conv => whnf)
    refine aloop (fun i : Nat => i ≤ G2.length) (fun i => ⟨envL [(5, .ptr 0 0), (9, .sl (hdl G)), (10, .ptr 1 0), (12, .ptr 3 0), (15, .sl (hdl G2)), (16, .int .i64 (i : Int))], [.box 67 [.nilm], .box 67 [.own 2], .map pk2 (ces es2) clk2, .box 29 [.int .u32 (ti : Int), .int .u32 (sq : Int), .int .u32 (dm : Int), .int .i64 (lo : Int), .int .i64 (il : Int)]]⟩) (fun i => G2.length - i) 0 (Nat.zero_le _) (weak_ren_to [(0, true), (1, true), (2, true), (3, true)] rfl rfl rfl ⟨rfl, rfl, rfl, rfl, rfl, rfl, trivial⟩) ?_
    intro i hi
    by_cases hlt : i < G2.length
    · have hx := List.getElem?_eq_getElem hlt
      have hk1 := k1 _ (List.mem_of_getElem? hx)
      have hr1 := r1 _ (List.mem_of_getElem? hx)
      generalize G2[i] = g at *
      have hg := hdl_get2 hx
      have q4 := same_refl g.t (by have := rightT_len hr1; omega)
      have q5 := qF g.dom g.t.id
      have hlt2 : (i : Int) < ((hdl G2).length : Int) := by omega
      by_cases hd : g.dom = dm
      · have hd2 : ((g.dom : Nat) : Int) = (dm : Int) := by rw [hd]
        cases hf : findE es (g.dom, g.t.id) with
        | none =>
          rw [hf] at q5
          have q5 : DCall P _ _ _ (.tup [ztv, .bool false]) _ := q5
          (conv => whnf); (repeat' ((with_reducible first | refine Box.mk ?_ | refine And.intro (fun _ => ?_) (fun _ => ?_) | fail) <;> conv => whnf))
          all_goals try exact absurd hlt2 (by assumption)
          refine ⟨[(16, [3, 5, 8, 11, 12])], by kernel_rfl, ?_⟩
          (conv => whnf); repeat' ((with_reducible refine Box.mk ?_) <;> conv => whnf)
          refine ⟨by omega, hdc g, hg, rfl, ?_⟩
          (conv => whnf); repeat' ((with_reducible refine Box.mk ?_) <;> conv => whnf)
          refine ⟨by omega, hdc g, hg, rfl, ?_⟩
          (conv => whnf); repeat' ((with_reducible refine Box.mk ?_) <;> conv => whnf)
          refine aDr [0] q5 rfl rfl rfl rfl ?_
          (conv => whnf); repeat' ((with_reducible refine Box.mk ?_) <;> conv => whnf)
          refine ⟨⟨⟨by omega, _, hg, rfl, rfl, rfl⟩, ⟨rfl, rfl⟩, ⟨by omega, _, hg, rfl, rfl, rfl⟩, ⟨rfl, rfl⟩, aW [0] q5 rfl rfl rfl ⟨rfl, rfl⟩, trivial⟩, ?_⟩
          (conv => whnf); repeat' ((with_reducible refine Box.mk ?_) <;> conv => whnf)
          refine ⟨[], by kernel_rfl, ?_⟩
          (conv => whnf); repeat' ((with_reducible refine Box.mk ?_) <;> conv => whnf)
          refine ⟨by omega, hdc g, hg, rfl, ?_⟩
          (conv => whnf); (repeat' ((with_reducible first | refine Box.mk ?_ | refine And.intro (fun _ => ?_) (fun _ => ?_) | fail) <;> conv => whnf))
          all_goals try exact absurd hd2 (by assumption)
          all_goals try exact absurd (by assumption) hd2
          exact ⟨i + 1, hlt, by omega, weak_ren_to [(0, true), (1, true), (2, true), (3, true)] rfl rfl rfl ⟨rfl, rfl, rfl, rfl, rfl, wrap_nat (m := 1) (by omega), trivial⟩⟩
        | some h =>
          rw [hf] at q5
          have q5 : DCall P _ _ _ (.tup [tv h.t, .bool true]) _ := q5
          (conv => whnf); (repeat' ((with_reducible first | refine Box.mk ?_ | refine And.intro (fun _ => ?_) (fun _ => ?_) | fail) <;> conv => whnf))
          all_goals try exact absurd hlt2 (by assumption)
          refine ⟨[(16, [3, 5, 8, 11, 12])], by kernel_rfl, ?_⟩
          (conv => whnf); repeat' ((with_reducible refine Box.mk ?_) <;> conv => whnf)
          refine ⟨by omega, hdc g, hg, rfl, ?_⟩
          (conv => whnf); repeat' ((with_reducible refine Box.mk ?_) <;> conv => whnf)
          refine ⟨by omega, hdc g, hg, rfl, ?_⟩
          (conv => whnf); repeat' ((with_reducible refine Box.mk ?_) <;> conv => whnf)
          refine aDr [0] q5 rfl rfl rfl rfl ?_
          (conv => whnf); repeat' ((with_reducible refine Box.mk ?_) <;> conv => whnf)
          refine ⟨⟨⟨by omega, _, hg, rfl, rfl, rfl⟩, ⟨rfl, rfl⟩, ⟨by omega, _, hg, rfl, rfl, rfl⟩, ⟨rfl, rfl⟩, aW [0] q5 rfl rfl rfl ⟨rfl, rfl⟩, trivial⟩, ?_⟩
          (conv => whnf); repeat' ((with_reducible refine Box.mk ?_) <;> conv => whnf)
          refine ⟨[], by kernel_rfl, ?_⟩
          (conv => whnf); repeat' ((with_reducible refine Box.mk ?_) <;> conv => whnf)
          refine ⟨by omega, hdc g, hg, rfl, ?_⟩
          (conv => whnf); (repeat' ((with_reducible first | refine Box.mk ?_ | refine And.intro (fun _ => ?_) (fun _ => ?_) | fail) <;> conv => whnf))
          all_goals try exact absurd hd2 (by assumption)
          all_goals try exact absurd (by assumption) hd2
          exact ⟨i + 1, hlt, by omega, weak_ren_to [(0, true), (1, true), (2, true), (3, true)] rfl rfl rfl ⟨rfl, rfl, rfl, rfl, rfl, wrap_nat (m := 1) (by omega), trivial⟩⟩
      · have hd2 : ¬ ((g.dom : Nat) : Int) = (dm : Int) := by omega
        rw [hk1 hd] at q5
        have q5 : DCall P _ _ _ (.tup [tv g.t, .bool true]) _ := q5
        (conv => whnf); (repeat' ((with_reducible first | refine Box.mk ?_ | refine And.intro (fun _ => ?_) (fun _ => ?_) | fail) <;> conv => whnf))
        all_goals try exact absurd hlt2 (by assumption)
        refine ⟨[(16, [3, 5, 8, 11, 12])], by kernel_rfl, ?_⟩
        (conv => whnf); repeat' ((with_reducible refine Box.mk ?_) <;> conv => whnf)
        refine ⟨by omega, hdc g, hg, rfl, ?_⟩
        (conv => whnf); repeat' ((with_reducible refine Box.mk ?_) <;> conv => whnf)
        refine ⟨by omega, hdc g, hg, rfl, ?_⟩
        (conv => whnf); repeat' ((with_reducible refine Box.mk ?_) <;> conv => whnf)
        refine aDr [0] q5 rfl rfl rfl rfl ?_
        (conv => whnf); repeat' ((with_reducible refine Box.mk ?_) <;> conv => whnf)
        refine ⟨⟨⟨by omega, _, hg, rfl, rfl, rfl⟩, ⟨rfl, rfl⟩, ⟨by omega, _, hg, rfl, rfl, rfl⟩, ⟨rfl, rfl⟩, aW [0] q5 rfl rfl rfl ⟨rfl, rfl⟩, trivial⟩, ?_⟩
        (conv => whnf); repeat' ((with_reducible refine Box.mk ?_) <;> conv => whnf)
        refine ⟨[], by kernel_rfl, ?_⟩
        (conv => whnf); repeat' ((with_reducible refine Box.mk ?_) <;> conv => whnf)
        refine ⟨by omega, hdc g, hg, rfl, ?_⟩
        (conv => whnf); (repeat' ((with_reducible first | refine Box.mk ?_ | refine And.intro (fun _ => ?_) (fun _ => ?_) | fail) <;> conv => whnf))
        all_goals try exact absurd hd2 (by assumption)
        all_goals try exact absurd (by assumption) hd2
        refine ⟨by omega, hdc g, hg, rfl, ?_⟩
        (conv => whnf); (repeat' ((first | (with_reducible refine Box.mk ?_) | ((with_reducible show Exists _); refine ⟨_, ACall.of_pure (by assumption) (by rfl) ⟨rfl, rfl⟩, ?_⟩) | fail) <;> conv => whnf))
        all_goals try exact absurd rfl (by assumption)
        exact ⟨i + 1, hlt, by omega, weak_ren_to [(0, true), (1, true), (2, true), (3, true)] rfl rfl rfl ⟨rfl, rfl, rfl, rfl, rfl, wrap_nat (m := 1) (by omega), trivial⟩⟩
    · have : i = G2.length := by omega
      subst this
      (conv => whnf); (repeat' ((with_reducible first | refine Box.mk ?_ | refine And.intro (fun _ => ?_) (fun _ => ?_) | fail) <;> conv => whnf))
      · exfalso; rename_i h; have h : ((G2.length : Nat) : Int) < ((hdl G2).length : Int) := h; omega
      refine aloop (fun i : Nat => i ≤ G.length) (fun i => ⟨envL [(5, .ptr 0 0), (9, .sl (hdl G)), (10, .ptr 1 0), (12, .ptr 3 0), (19, .int .i64 (i : Int))], [.box 67 [.nilm], .box 67 [.own 2], .map pk2 (ces es2) clk2, .box 29 [.int .u32 (ti : Int), .int .u32 (sq : Int), .int .u32 (dm : Int), .int .i64 (lo : Int), .int .i64 (il : Int)]]⟩) (fun i => G.length - i) 0 (Nat.zero_le _) (weak_ren_to [(0, true), (1, true), (2, true), (3, true)] rfl rfl rfl ⟨rfl, rfl, rfl, rfl, rfl, trivial⟩) ?_
      intro i hi
      by_cases hlt : i < G.length
      · have hx := List.getElem?_eq_getElem hlt
        have hk2 := k2 _ (List.mem_of_getElem? hx)
        generalize G[i] = g at *
        have hg := hdl_get2 hx
        have q5 := qF2 g.dom g.t.id
        have hlt2 : (i : Int) < ((hdl G).length : Int) := by omega
        by_cases hd : g.dom = dm
        · have hd2 : ((g.dom : Nat) : Int) = (dm : Int) := by rw [hd]
          cases hf : findE es2 (g.dom, g.t.id) with
          | none =>
            rw [hf] at q5
            have q5 : DCall P _ _ _ (.tup [ztv, .bool false]) _ := q5
            (conv => whnf); (repeat' ((first | (with_reducible first | refine Box.mk ?_ | refine And.intro (fun _ => ?_) (fun _ => ?_) | fail) | ((with_reducible show ACall _ _ _ _ _); refine ACall.of_pure (by assumption) (by rfl) ?_) | fail) <;> conv => whnf))
            all_goals try exact absurd hlt2 (by assumption)
            refine ⟨[(16, [3, 5, 8, 11, 12])], by kernel_rfl, ?_⟩
            (conv => whnf); repeat' ((with_reducible refine Box.mk ?_) <;> conv => whnf)
            refine ⟨by omega, hdc g, hg, rfl, ?_⟩
            (conv => whnf); repeat' ((with_reducible refine Box.mk ?_) <;> conv => whnf)
            refine ⟨by omega, hdc g, hg, rfl, ?_⟩
            (conv => whnf); repeat' ((with_reducible refine Box.mk ?_) <;> conv => whnf)
            refine aDr [1, 2] q5 rfl rfl rfl rfl ?_
            (conv => whnf); repeat' ((with_reducible refine Box.mk ?_) <;> conv => whnf)
            refine ⟨⟨⟨by omega, _, hg, rfl, rfl, rfl⟩, ⟨rfl, rfl⟩, ⟨by omega, _, hg, rfl, rfl, rfl⟩, ⟨rfl, rfl⟩, aW [1, 2] q5 rfl rfl rfl ⟨rfl, rfl⟩, trivial⟩, ?_⟩
            (conv => whnf); repeat' ((with_reducible refine Box.mk ?_) <;> conv => whnf)
            refine ⟨[], by kernel_rfl, ?_⟩
            (conv => whnf); repeat' ((with_reducible refine Box.mk ?_) <;> conv => whnf)
            refine ⟨by omega, hdc g, hg, rfl, ?_⟩
            (conv => whnf); (repeat' ((with_reducible first | refine Box.mk ?_ | refine And.intro (fun _ => ?_) (fun _ => ?_) | fail) <;> conv => whnf))
            all_goals try exact absurd hd2 (by assumption)
            all_goals try exact absurd (by assumption) hd2
            exact ⟨i + 1, hlt, by omega, weak_ren_to [(0, true), (1, true), (2, true), (3, true)] rfl rfl rfl ⟨rfl, rfl, rfl, rfl, wrap_nat (m := 1) (by omega), trivial⟩⟩
          | some h =>
            rw [hf] at q5
            have q5 : DCall P _ _ _ (.tup [tv h.t, .bool true]) _ := q5
            (conv => whnf); (repeat' ((first | (with_reducible first | refine Box.mk ?_ | refine And.intro (fun _ => ?_) (fun _ => ?_) | fail) | ((with_reducible show ACall _ _ _ _ _); refine ACall.of_pure (by assumption) (by rfl) ?_) | fail) <;> conv => whnf))
            all_goals try exact absurd hlt2 (by assumption)
            refine ⟨[(16, [3, 5, 8, 11, 12])], by kernel_rfl, ?_⟩
            (conv => whnf); repeat' ((with_reducible refine Box.mk ?_) <;> conv => whnf)
            refine ⟨by omega, hdc g, hg, rfl, ?_⟩
            (conv => whnf); repeat' ((with_reducible refine Box.mk ?_) <;> conv => whnf)
            refine ⟨by omega, hdc g, hg, rfl, ?_⟩
            (conv => whnf); repeat' ((with_reducible refine Box.mk ?_) <;> conv => whnf)
            refine aDr [1, 2] q5 rfl rfl rfl rfl ?_
            (conv => whnf); repeat' ((with_reducible refine Box.mk ?_) <;> conv => whnf)
            refine ⟨⟨⟨by omega, _, hg, rfl, rfl, rfl⟩, ⟨rfl, rfl⟩, ⟨by omega, _, hg, rfl, rfl, rfl⟩, ⟨rfl, rfl⟩, aW [1, 2] q5 rfl rfl rfl ⟨rfl, rfl⟩, trivial⟩, ?_⟩
            (conv => whnf); repeat' ((with_reducible refine Box.mk ?_) <;> conv => whnf)
            refine ⟨[], by kernel_rfl, ?_⟩
            (conv => whnf); repeat' ((with_reducible refine Box.mk ?_) <;> conv => whnf)
            refine ⟨by omega, hdc g, hg, rfl, ?_⟩
            (conv => whnf); (repeat' ((with_reducible first | refine Box.mk ?_ | refine And.intro (fun _ => ?_) (fun _ => ?_) | fail) <;> conv => whnf))
            all_goals try exact absurd hd2 (by assumption)
            all_goals try exact absurd (by assumption) hd2
            exact ⟨i + 1, hlt, by omega, weak_ren_to [(0, true), (1, true), (2, true), (3, true)] rfl rfl rfl ⟨rfl, rfl, rfl, rfl, wrap_nat (m := 1) (by omega), trivial⟩⟩
        · have hd2 : ¬ ((g.dom : Nat) : Int) = (dm : Int) := by omega
          rw [hk2 hd] at q5
          have q5 : DCall P _ _ _ (.tup [tv g.t, .bool true]) _ := q5
          (conv => whnf); (repeat' ((first | (with_reducible first | refine Box.mk ?_ | refine And.intro (fun _ => ?_) (fun _ => ?_) | fail) | ((with_reducible show ACall _ _ _ _ _); refine ACall.of_pure (by assumption) (by rfl) ?_) | fail) <;> conv => whnf))
          all_goals try exact absurd hlt2 (by assumption)
          refine ⟨[(16, [3, 5, 8, 11, 12])], by kernel_rfl, ?_⟩
          (conv => whnf); repeat' ((with_reducible refine Box.mk ?_) <;> conv => whnf)
          refine ⟨by omega, hdc g, hg, rfl, ?_⟩
          (conv => whnf); repeat' ((with_reducible refine Box.mk ?_) <;> conv => whnf)
          refine ⟨by omega, hdc g, hg, rfl, ?_⟩
          (conv => whnf); repeat' ((with_reducible refine Box.mk ?_) <;> conv => whnf)
          refine aDr [1, 2] q5 rfl rfl rfl rfl ?_
          (conv => whnf); repeat' ((with_reducible refine Box.mk ?_) <;> conv => whnf)
          refine ⟨⟨⟨by omega, _, hg, rfl, rfl, rfl⟩, ⟨rfl, rfl⟩, ⟨by omega, _, hg, rfl, rfl, rfl⟩, ⟨rfl, rfl⟩, aW [1, 2] q5 rfl rfl rfl ⟨rfl, rfl⟩, trivial⟩, ?_⟩
          (conv => whnf); repeat' ((with_reducible refine Box.mk ?_) <;> conv => whnf)
          refine ⟨[], by kernel_rfl, ?_⟩
          (conv => whnf); repeat' ((with_reducible refine Box.mk ?_) <;> conv => whnf)
          refine ⟨by omega, hdc g, hg, rfl, ?_⟩
          (conv => whnf); (repeat' ((with_reducible first | refine Box.mk ?_ | refine And.intro (fun _ => ?_) (fun _ => ?_) | fail) <;> conv => whnf))
          all_goals try exact absurd hd2 (by assumption)
          all_goals try exact absurd (by assumption) hd2
          exact ⟨i + 1, hlt, by omega, weak_ren_to [(0, true), (1, true), (2, true), (3, true)] rfl rfl rfl ⟨rfl, rfl, rfl, rfl, wrap_nat (m := 1) (by omega), trivial⟩⟩
      · have : i = G.length := by omega
        subst this
        (conv => whnf); (repeat' ((first | (with_reducible first | refine Box.mk ?_ | refine And.intro (fun _ => ?_) (fun _ => ?_) | fail) | ((with_reducible show ACall _ _ _ _ _); refine ACall.of_pure (by assumption) (by rfl) ?_) | fail) <;> conv => whnf))
        · exfalso; rename_i h; have h : ((G.length : Nat) : Int) < ((hdl G).length : Int) := h; omega
        refine aW [0] qL rfl rfl rfl ?_
        (conv => whnf); (repeat' ((first | (with_reducible refine Box.mk ?_) | ((with_reducible show ACall _ _ _ _ _); refine ACall.of_pure (by assumption) (by rfl) ?_) | fail) <;> conv => whnf))
        rfl

set_option maxHeartbeats 8000000 in
theorem apGoodNN (es : Es) (clk : Nat) (hc : CI ⟨true, es, clk⟩) (b : Bs) (es2 : Es) (clk2 ti sq dm lo il : Nat) (ou : List Rc) (hc2 : CI ⟨true, es2, clk2⟩) (hk : Keeps dm ⟨true, es, clk⟩ ⟨true, es2, clk2⟩) (ho : ∀ r ∈ ou, rightR r = true) (hs : ∀ r ∈ ou, RSm2 r) (hol : ou.length ≤ 1000000000)
    (qR : DCall P 8 [.ptr 0 0, .sl (bcl b)] [.box 67 [.nilm]] (goodV 1 ⟨⟨true, es2, clk2⟩, ti, sq, dm, lo, il, ou⟩) ([.box 67 [.nilm]] ++ [.box 67 [.nilm]])) :
    Sound P Tryz.f6.ntmps none 0 apC (PPost ty Tryz.f6.results.toList (.bool true)) ⟨envL [(1, .sl (bcl b)), (5, .ptr 0 0)], [.box 67 [.nilm]]⟩ := by
  have qL : DCall P 15 [.ptr 0 0] [.box 67 [.nilm]] (.sl (hdl (listE es))) [.box 67 [.nilm]] := list_ok ⟨true, es, clk⟩ hc
  have qL2 : DCall P 15 [.ptr 0 0] [.box 67 [.nilm]] (.sl (hdl (listE es2))) [.box 67 [.nilm]] := list_ok ⟨true, es2, clk2⟩ hc2
  have qS := sameAll_refl (listE es) hc.list.2.1 (by have : (listE es).length ≤ 64 := hc.list.2.2.2; omega)
  have qa := alive_17
  have qF : ∀ (d : Nat) (i : Int), DCall P 18 [.ptr 0 0, .int .u32 (d : Int), .int .i64 i] [.box 67 [.nilm]] (foundV (findE es (d, i))) [.box 67 [.nilm]] := fun d i => find_ok ⟨true, es, clk⟩ hc d i
  have qF2 : ∀ (d : Nat) (i : Int), DCall P 18 [.ptr 0 0, .int .u32 (d : Int), .int .i64 i] [.box 67 [.nilm]] (foundV (findE es2 (d, i))) [.box 67 [.nilm]] := fun d i => find_ok ⟨true, es2, clk2⟩ hc2 d i
  have k1 : ∀ g ∈ listE es2, g.dom ≠ dm → findE es (g.dom, g.t.id) = some g := fun g hg hd => keeps_find hc hc2 hk hg hd
  have k2 : ∀ g ∈ listE es, g.dom ≠ dm → findE es2 (g.dom, g.t.id) = some g := fun g hg hd => keeps_find hc2 hc hk.symm hg hd
  have r1 : ∀ g ∈ listE es2, rightT g.t = true := hc2.list.2.1
  have l1 : (listE es).length ≤ 64 := hc.list.2.2.2
  have l2 : (listE es2).length ≤ 64 := hc2.list.2.2.2
  unfold goodV hvR at qR
  dsimp only at qR
  generalize listE es = G at *
  generalize listE es2 = G2 at *
  have hgl := hdl_len G
  have hgl2 := hdl_len G2
  have hrl := rcl_len ou
  refine Sound.awp tok mixed ?_
  (conv => whnf); (repeat' ((with_reducible first | refine Box.mk ?_ | refine And.intro (fun _ => ?_) (fun _ => ?_) | fail) <;> conv => whnf))
  all_goals try contradiction
  refine aW [0] qL rfl rfl rfl ?_
  (conv => whnf); repeat' ((with_reducible refine Box.mk ?_) <;> conv => whnf)
  refine aW [0] qR rfl rfl rfl ?_
  (conv => whnf); (repeat' ((first | (with_reducible first | refine Box.mk ?_ | refine And.intro (fun _ => ?_) (fun _ => ?_) | fail) | ((with_reducible show ACall _ _ _ _ _); refine ACall.of_pure (by assumption) (by rfl) ?_) | fail) <;> conv => whnf))
  all_goals try exact absurd rfl (by assumption)
  refine aloop (fun i : Nat => i ≤ ou.length) (fun i => ⟨envL [(5, .ptr 0 0), (9, .sl (hdl G)), (10, .ptr 1 0), (11, .sl (rcl ou)), (12, .ptr 2 0), (14, .int .i64 (i : Int))], [.box 67 [.nilm], .box 67 [.nilm], .box 29 [.int .u32 (ti : Int), .int .u32 (sq : Int), .int .u32 (dm : Int), .int .i64 (lo : Int), .int .i64 (il : Int)]]⟩) (fun i => ou.length - i) 0 (Nat.zero_le _) (weak_ren_to [(0, true), (1, true), (2, true)] rfl rfl rfl ⟨rfl, rfl, rfl, rfl, rfl, rfl, trivial⟩) ?_
  intro i hi
  by_cases hlt : i < ou.length
  · have hx := List.getElem?_eq_getElem hlt
    have hor := ho _ (List.mem_of_getElem? hx)
    have hsm := hs _ (List.mem_of_getElem? hx)
    generalize ou[i] = r at *
    have hg : (rcl ou)[(i : Int).toNat]? = some (rcc r) := by rw [Int.toNat_natCast, rcl, List.getElem?_map, hx]; rfl
    have q5 := fFlowRight_ok r hsm.small
    rw [hor] at q5
    have hlt2 : (i : Int) < ((rcl ou).length : Int) := by omega
    (conv => whnf); (repeat' ((with_reducible first | refine Box.mk ?_ | refine And.intro (fun _ => ?_) (fun _ => ?_) | fail) <;> conv => whnf))
    all_goals try exact absurd hlt2 (by assumption)
    refine ⟨by omega, rcc r, hg, rfl, ?_⟩
    (conv => whnf); (repeat' ((first | (with_reducible refine Box.mk ?_) | ((with_reducible show ACall _ _ _ _ _); refine ACall.of_pure (by assumption) (by rfl) ?_) | fail) <;> conv => whnf))
    all_goals try (exact absurd rfl (by assumption))
    exact ⟨i + 1, hlt, by omega, weak_ren_to [(0, true), (1, true), (2, true)] rfl rfl rfl ⟨rfl, rfl, rfl, rfl, rfl, wrap_nat (m := 1) (by omega), trivial⟩⟩
  · have : i = ou.length := by omega
    subst this
    (conv => whnf); (repeat' ((with_reducible first | refine Box.mk ?_ | refine And.intro (fun _ => ?_) (fun _ => ?_) | fail) <;> conv => whnf))
    · exfalso; rename_i h; have h : ((ou.length : Nat) : Int) < ((rcl ou).length : Int) := h; omega
    all_goals try contradiction
    refine aW [1] qL2 rfl rfl rfl ?_
    (conv => whnf); repeat' ((with_reducible refine Box.mk ?_) <;> conv => whnf)
    refine aloop (fun i : Nat => i ≤ G2.length) (fun i => ⟨envL [(5, .ptr 0 0), (9, .sl (hdl G)), (10, .ptr 1 0), (12, .ptr 2 0), (15, .sl (hdl G2)), (16, .int .i64 (i : Int))], [.box 67 [.nilm], .box 67 [.nilm], .box 29 [.int .u32 (ti : Int), .int .u32 (sq : Int), .int .u32 (dm : Int), .int .i64 (lo : Int), .int .i64 (il : Int)]]⟩) (fun i => G2.length - i) 0 (Nat.zero_le _) (weak_ren_to [(0, true), (1, true), (2, true)] rfl rfl rfl ⟨rfl, rfl, rfl, rfl, rfl, rfl, trivial⟩) ?_
    intro i hi
    by_cases hlt : i < G2.length
    · have hx := List.getElem?_eq_getElem hlt
      have hk1 := k1 _ (List.mem_of_getElem? hx)
      have hr1 := r1 _ (List.mem_of_getElem? hx)
      generalize G2[i] = g at *
      have hg := hdl_get2 hx
      have q4 := same_refl g.t (by have := rightT_len hr1; omega)
      have q5 := qF g.dom g.t.id
      have hlt2 : (i : Int) < ((hdl G2).length : Int) := by omega
      by_cases hd : g.dom = dm
      · have hd2 : ((g.dom : Nat) : Int) = (dm : Int) := by rw [hd]
        cases hf : findE es (g.dom, g.t.id) with
        | none =>
          rw [hf] at q5
          have q5 : DCall P _ _ _ (.tup [ztv, .bool false]) _ := q5
          (conv => whnf); (repeat' ((with_reducible first | refine Box.mk ?_ | refine And.intro (fun _ => ?_) (fun _ => ?_) | fail) <;> conv => whnf))
          all_goals try exact absurd hlt2 (by assumption)
          refine ⟨[(16, [3, 5, 8, 11, 12])], by kernel_rfl, ?_⟩
          (conv => whnf); repeat' ((with_reducible refine Box.mk ?_) <;> conv => whnf)
          refine ⟨by omega, hdc g, hg, rfl, ?_⟩
          (conv => whnf); repeat' ((with_reducible refine Box.mk ?_) <;> conv => whnf)
          refine ⟨by omega, hdc g, hg, rfl, ?_⟩
          (conv => whnf); repeat' ((with_reducible refine Box.mk ?_) <;> conv => whnf)
          refine aDr [0] q5 rfl rfl rfl rfl ?_
          (conv => whnf); repeat' ((with_reducible refine Box.mk ?_) <;> conv => whnf)
          refine ⟨⟨⟨by omega, _, hg, rfl, rfl, rfl⟩, ⟨rfl, rfl⟩, ⟨by omega, _, hg, rfl, rfl, rfl⟩, ⟨rfl, rfl⟩, aW [0] q5 rfl rfl rfl ⟨rfl, rfl⟩, trivial⟩, ?_⟩
          (conv => whnf); repeat' ((with_reducible refine Box.mk ?_) <;> conv => whnf)
          refine ⟨[], by kernel_rfl, ?_⟩
          (conv => whnf); repeat' ((with_reducible refine Box.mk ?_) <;> conv => whnf)
          refine ⟨by omega, hdc g, hg, rfl, ?_⟩
          (conv => whnf); (repeat' ((with_reducible first | refine Box.mk ?_ | refine And.intro (fun _ => ?_) (fun _ => ?_) | fail) <;> conv => whnf))
          all_goals try exact absurd hd2 (by assumption)
          all_goals try exact absurd (by assumption) hd2
          exact ⟨i + 1, hlt, by omega, weak_ren_to [(0, true), (1, true), (2, true)] rfl rfl rfl ⟨rfl, rfl, rfl, rfl, rfl, wrap_nat (m := 1) (by omega), trivial⟩⟩
        | some h =>
          rw [hf] at q5
          have q5 : DCall P _ _ _ (.tup [tv h.t, .bool true]) _ := q5
          (conv => whnf); (repeat' ((with_reducible first | refine Box.mk ?_ | refine And.intro (fun _ => ?_) (fun _ => ?_) | fail) <;> conv => whnf))
          all_goals try exact absurd hlt2 (by assumption)
          refine ⟨[(16, [3, 5, 8, 11, 12])], by kernel_rfl, ?_⟩
          (conv => whnf); repeat' ((with_reducible refine Box.mk ?_) <;> conv => whnf)
          refine ⟨by omega, hdc g, hg, rfl, ?_⟩
          (conv => whnf); repeat' ((with_reducible refine Box.mk ?_) <;> conv => whnf)
          refine ⟨by omega, hdc g, hg, rfl, ?_⟩
          (conv => whnf); repeat' ((with_reducible refine Box.mk ?_) <;> conv => whnf)
          refine aDr [0] q5 rfl rfl rfl rfl ?_
          (conv => whnf); repeat' ((with_reducible refine Box.mk ?_) <;> conv => whnf)
          refine ⟨⟨⟨by omega, _, hg, rfl, rfl, rfl⟩, ⟨rfl, rfl⟩, ⟨by omega, _, hg, rfl, rfl, rfl⟩, ⟨rfl, rfl⟩, aW [0] q5 rfl rfl rfl ⟨rfl, rfl⟩, trivial⟩, ?_⟩
          (conv => whnf); repeat' ((with_reducible refine Box.mk ?_) <;> conv => whnf)
          refine ⟨[], by kernel_rfl, ?_⟩
          (conv => whnf); repeat' ((with_reducible refine Box.mk ?_) <;> conv => whnf)
          refine ⟨by omega, hdc g, hg, rfl, ?_⟩
          (conv => whnf); (repeat' ((with_reducible first | refine Box.mk ?_ | refine And.intro (fun _ => ?_) (fun _ => ?_) | fail) <;> conv => whnf))
          all_goals try exact absurd hd2 (by assumption)
          all_goals try exact absurd (by assumption) hd2
          exact ⟨i + 1, hlt, by omega, weak_ren_to [(0, true), (1, true), (2, true)] rfl rfl rfl ⟨rfl, rfl, rfl, rfl, rfl, wrap_nat (m := 1) (by omega), trivial⟩⟩
      · have hd2 : ¬ ((g.dom : Nat) : Int) = (dm : Int) := by omega
        rw [hk1 hd] at q5
        have q5 : DCall P _ _ _ (.tup [tv g.t, .bool true]) _ := q5
        (conv => whnf); (repeat' ((with_reducible first | refine Box.mk ?_ | refine And.intro (fun _ => ?_) (fun _ => ?_) | fail) <;> conv => whnf))
        all_goals try exact absurd hlt2 (by assumption)
        refine ⟨[(16, [3, 5, 8, 11, 12])], by kernel_rfl, ?_⟩
        (conv => whnf); repeat' ((with_reducible refine Box.mk ?_) <;> conv => whnf)
        refine ⟨by omega, hdc g, hg, rfl, ?_⟩
        (conv => whnf); repeat' ((with_reducible refine Box.mk ?_) <;> conv => whnf)
        refine ⟨by omega, hdc g, hg, rfl, ?_⟩
        (conv => whnf); repeat' ((with_reducible refine Box.mk ?_) <;> conv => whnf)
        refine aDr [0] q5 rfl rfl rfl rfl ?_
        (conv => whnf); repeat' ((with_reducible refine Box.mk ?_) <;> conv => whnf)
        refine ⟨⟨⟨by omega, _, hg, rfl, rfl, rfl⟩, ⟨rfl, rfl⟩, ⟨by omega, _, hg, rfl, rfl, rfl⟩, ⟨rfl, rfl⟩, aW [0] q5 rfl rfl rfl ⟨rfl, rfl⟩, trivial⟩, ?_⟩
        (conv => whnf); repeat' ((with_reducible refine Box.mk ?_) <;> conv => whnf)
        refine ⟨[], by kernel_rfl, ?_⟩
        (conv => whnf); repeat' ((with_reducible refine Box.mk ?_) <;> conv => whnf)
        refine ⟨by omega, hdc g, hg, rfl, ?_⟩
        (conv => whnf); (repeat' ((with_reducible first | refine Box.mk ?_ | refine And.intro (fun _ => ?_) (fun _ => ?_) | fail) <;> conv => whnf))
        all_goals try exact absurd hd2 (by assumption)
        all_goals try exact absurd (by assumption) hd2
        refine ⟨by omega, hdc g, hg, rfl, ?_⟩
        (conv => whnf); (repeat' ((first | (with_reducible refine Box.mk ?_) | ((with_reducible show Exists _); refine ⟨_, ACall.of_pure (by assumption) (by rfl) ⟨rfl, rfl⟩, ?_⟩) | fail) <;> conv => whnf))
        all_goals try exact absurd rfl (by assumption)
        exact ⟨i + 1, hlt, by omega, weak_ren_to [(0, true), (1, true), (2, true)] rfl rfl rfl ⟨rfl, rfl, rfl, rfl, rfl, wrap_nat (m := 1) (by omega), trivial⟩⟩
    · have : i = G2.length := by omega
      subst this
      (conv => whnf); (repeat' ((with_reducible first | refine Box.mk ?_ | refine And.intro (fun _ => ?_) (fun _ => ?_) | fail) <;> conv => whnf))
      · exfalso; rename_i h; have h : ((G2.length : Nat) : Int) < ((hdl G2).length : Int) := h; omega
      refine aloop (fun i : Nat => i ≤ G.length) (fun i => ⟨envL [(5, .ptr 0 0), (9, .sl (hdl G)), (10, .ptr 1 0), (12, .ptr 2 0), (19, .int .i64 (i : Int))], [.box 67 [.nilm], .box 67 [.nilm], .box 29 [.int .u32 (ti : Int), .int .u32 (sq : Int), .int .u32 (dm : Int), .int .i64 (lo : Int), .int .i64 (il : Int)]]⟩) (fun i => G.length - i) 0 (Nat.zero_le _) (weak_ren_to [(0, true), (1, true), (2, true)] rfl rfl rfl ⟨rfl, rfl, rfl, rfl, rfl, trivial⟩) ?_
      intro i hi
      by_cases hlt : i < G.length
      · have hx := List.getElem?_eq_getElem hlt
        have hk2 := k2 _ (List.mem_of_getElem? hx)
        generalize G[i] = g at *
        have hg := hdl_get2 hx
        have q5 := qF2 g.dom g.t.id
        have hlt2 : (i : Int) < ((hdl G).length : Int) := by omega
        by_cases hd : g.dom = dm
        · have hd2 : ((g.dom : Nat) : Int) = (dm : Int) := by rw [hd]
          cases hf : findE es2 (g.dom, g.t.id) with
          | none =>
            rw [hf] at q5
            have q5 : DCall P _ _ _ (.tup [ztv, .bool false]) _ := q5
            (conv => whnf); (repeat' ((first | (with_reducible first | refine Box.mk ?_ | refine And.intro (fun _ => ?_) (fun _ => ?_) | fail) | ((with_reducible show ACall _ _ _ _ _); refine ACall.of_pure (by assumption) (by rfl) ?_) | fail) <;> conv => whnf))
            all_goals try exact absurd hlt2 (by assumption)
            refine ⟨[(16, [3, 5, 8, 11, 12])], by kernel_rfl, ?_⟩
            (conv => whnf); repeat' ((with_reducible refine Box.mk ?_) <;> conv => whnf)
            refine ⟨by omega, hdc g, hg, rfl, ?_⟩
            (conv => whnf); repeat' ((with_reducible refine Box.mk ?_) <;> conv => whnf)
            refine ⟨by omega, hdc g, hg, rfl, ?_⟩
            (conv => whnf); repeat' ((with_reducible refine Box.mk ?_) <;> conv => whnf)
            refine aDr [1] q5 rfl rfl rfl rfl ?_
            (conv => whnf); repeat' ((with_reducible refine Box.mk ?_) <;> conv => whnf)
            refine ⟨⟨⟨by omega, _, hg, rfl, rfl, rfl⟩, ⟨rfl, rfl⟩, ⟨by omega, _, hg, rfl, rfl, rfl⟩, ⟨rfl, rfl⟩, aW [1] q5 rfl rfl rfl ⟨rfl, rfl⟩, trivial⟩, ?_⟩
            (conv => whnf); repeat' ((with_reducible refine Box.mk ?_) <;> conv => whnf)
            refine ⟨[], by kernel_rfl, ?_⟩
            (conv => whnf); repeat' ((with_reducible refine Box.mk ?_) <;> conv => whnf)
            refine ⟨by omega, hdc g, hg, rfl, ?_⟩
            (conv => whnf); (repeat' ((with_reducible first | refine Box.mk ?_ | refine And.intro (fun _ => ?_) (fun _ => ?_) | fail) <;> conv => whnf))
            all_goals try exact absurd hd2 (by assumption)
            all_goals try exact absurd (by assumption) hd2
            exact ⟨i + 1, hlt, by omega, weak_ren_to [(0, true), (1, true), (2, true)] rfl rfl rfl ⟨rfl, rfl, rfl, rfl, wrap_nat (m := 1) (by omega), trivial⟩⟩
          | some h =>
            rw [hf] at q5
            have q5 : DCall P _ _ _ (.tup [tv h.t, .bool true]) _ := q5
            (conv => whnf); (repeat' ((first | (with_reducible first | refine Box.mk ?_ | refine And.intro (fun _ => ?_) (fun _ => ?_) | fail) | ((with_reducible show ACall _ _ _ _ _); refine ACall.of_pure (by assumption) (by rfl) ?_) | fail) <;> conv => whnf))
            all_goals try exact absurd hlt2 (by assumption)
            refine ⟨[(16, [3, 5, 8, 11, 12])], by kernel_rfl, ?_⟩
            (conv => whnf); repeat' ((with_reducible refine Box.mk ?_) <;> conv => whnf)
            refine ⟨by omega, hdc g, hg, rfl, ?_⟩
            (conv => whnf); repeat' ((with_reducible refine Box.mk ?_) <;> conv => whnf)
            refine ⟨by omega, hdc g, hg, rfl, ?_⟩
            (conv => whnf); repeat' ((with_reducible refine Box.mk ?_) <;> conv => whnf)
            refine aDr [1] q5 rfl rfl rfl rfl ?_
            (conv => whnf); repeat' ((with_reducible refine Box.mk ?_) <;> conv => whnf)
            refine ⟨⟨⟨by omega, _, hg, rfl, rfl, rfl⟩, ⟨rfl, rfl⟩, ⟨by omega, _, hg, rfl, rfl, rfl⟩, ⟨rfl, rfl⟩, aW [1] q5 rfl rfl rfl ⟨rfl, rfl⟩, trivial⟩, ?_⟩
            (conv => whnf); repeat' ((with_reducible refine Box.mk ?_) <;> conv => whnf)
            refine ⟨[], by kernel_rfl, ?_⟩
            (conv => whnf); repeat' ((with_reducible refine Box.mk ?_) <;> conv => whnf)
            refine ⟨by omega, hdc g, hg, rfl, ?_⟩
            (conv => whnf); (repeat' ((with_reducible first | refine Box.mk ?_ | refine And.intro (fun _ => ?_) (fun _ => ?_) | fail) <;> conv => whnf))
            all_goals try exact absurd hd2 (by assumption)
            all_goals try exact absurd (by assumption) hd2
            exact ⟨i + 1, hlt, by omega, weak_ren_to [(0, true), (1, true), (2, true)] rfl rfl rfl ⟨rfl, rfl, rfl, rfl, wrap_nat (m := 1) (by omega), trivial⟩⟩
        · have hd2 : ¬ ((g.dom : Nat) : Int) = (dm : Int) := by omega
          rw [hk2 hd] at q5
          have q5 : DCall P _ _ _ (.tup [tv g.t, .bool true]) _ := q5
          (conv => whnf); (repeat' ((first | (with_reducible first | refine Box.mk ?_ | refine And.intro (fun _ => ?_) (fun _ => ?_) | fail) | ((with_reducible show ACall _ _ _ _ _); refine ACall.of_pure (by assumption) (by rfl) ?_) | fail) <;> conv => whnf))
          all_goals try exact absurd hlt2 (by assumption)
          refine ⟨[(16, [3, 5, 8, 11, 12])], by kernel_rfl, ?_⟩
          (conv => whnf); repeat' ((with_reducible refine Box.mk ?_) <;> conv => whnf)
          refine ⟨by omega, hdc g, hg, rfl, ?_⟩
          (conv => whnf); repeat' ((with_reducible refine Box.mk ?_) <;> conv => whnf)
          refine ⟨by omega, hdc g, hg, rfl, ?_⟩
          (conv => whnf); repeat' ((with_reducible refine Box.mk ?_) <;> conv => whnf)
          refine aDr [1] q5 rfl rfl rfl rfl ?_
          (conv => whnf); repeat' ((with_reducible refine Box.mk ?_) <;> conv => whnf)
          refine ⟨⟨⟨by omega, _, hg, rfl, rfl, rfl⟩, ⟨rfl, rfl⟩, ⟨by omega, _, hg, rfl, rfl, rfl⟩, ⟨rfl, rfl⟩, aW [1] q5 rfl rfl rfl ⟨rfl, rfl⟩, trivial⟩, ?_⟩
          (conv => whnf); repeat' ((with_reducible refine Box.mk ?_) <;> conv => whnf)
          refine ⟨[], by kernel_rfl, ?_⟩
          (conv => whnf); repeat' ((with_reducible refine Box.mk ?_) <;> conv => whnf)
          refine ⟨by omega, hdc g, hg, rfl, ?_⟩
          (conv => whnf); (repeat' ((with_reducible first | refine Box.mk ?_ | refine And.intro (fun _ => ?_) (fun _ => ?_) | fail) <;> conv => whnf))
          all_goals try exact absurd hd2 (by assumption)
          all_goals try exact absurd (by assumption) hd2
          exact ⟨i + 1, hlt, by omega, weak_ren_to [(0, true), (1, true), (2, true)] rfl rfl rfl ⟨rfl, rfl, rfl, rfl, wrap_nat (m := 1) (by omega), trivial⟩⟩
      · have : i = G.length := by omega
        subst this
        (conv => whnf); (repeat' ((first | (with_reducible first | refine Box.mk ?_ | refine And.intro (fun _ => ?_) (fun _ => ?_) | fail) | ((with_reducible show ACall _ _ _ _ _); refine ACall.of_pure (by assumption) (by rfl) ?_) | fail) <;> conv => whnf))
        · exfalso; rename_i h; have h : ((G.length : Nat) : Int) < ((hdl G).length : Int) := h; omega
        refine aW [0] qL rfl rfl rfl ?_
        (conv => whnf); (repeat' ((first | (with_reducible refine Box.mk ?_) | ((with_reducible show ACall _ _ _ _ _); refine ACall.of_pure (by assumption) (by rfl) ?_) | fail) <;> conv => whnf))
        rfl
end Go.Proofs.YtnajpmepcffnaaaGreatDoor
end

section
/- law17: IpfixApart. -/
namespace Go.Proofs.YtnajpmepcffnaaaGreatDoor
open Go.Ve
attribute [local irreducible] Sound

theorem apRest (c : Cs) (hc : CI c) (b : Bs) (hb : b.length ≤ 1048576) :
    Sound P Tryz.f6.ntmps none 0 apC (PPost ty Tryz.f6.results.toList (.bool true)) ⟨envL [(1, .sl (bcl b)), (5, .ptr 0 0)], cH c⟩ := by
  obtain ⟨nl, es, clk⟩ := c
  by_cases h0 : (readM opC (cloneS ⟨nl, es, clk⟩) b).2 = 0
  · obtain ⟨s1, s2, s3, s4⟩ := read_says hc (by omega) h0
    have s5 := read_small (c := cloneS ⟨nl, es, clk⟩) hb
    have qR := (ipRead_ok ⟨nl, es, clk⟩ hc b (by omega)).2 h0
    generalize (readM opC (cloneS ⟨nl, es, clk⟩) b).1 = d at *
    obtain ⟨⟨nl2, es2, clk2⟩, ti, sq, dm, lo, il, ou⟩ := d
    cases nl <;> cases nl2
    · exact apGoodFF es clk hc b es2 clk2 ti sq dm lo il ou s1 s2 s3 s5 s4 qR
    · exact apGoodFN es clk hc b es2 clk2 ti sq dm lo il ou s1 s2 s3 s5 s4 qR
    · exact apGoodNF es clk hc b es2 clk2 ti sq dm lo il ou s1 s2 s3 s5 s4 qR
    · exact apGoodNN es clk hc b es2 clk2 ti sq dm lo il ou s1 s2 s3 s5 s4 qR
  · cases nl
    · exact apBadF es clk hc b hb h0
    · exact apBadN es clk hc b hb h0
theorem IpfixApart_run (had b : Bs) (hh : had.length ≤ 1048576) (hb : b.length ≤ 1048576) : PCall P 6 [.sl (bcl had), .sl (bcl b)] (.bool true) := by
  have qC := cnew_ok
  obtain ⟨qR1, qR2⟩ := ipRead_ok newS CI.new had (by omega)
  have hci := fun h => (read_says CI.new (b := had) (by omega) h).1
  generalize readM opC (cloneS newS) had = z at *
  obtain ⟨⟨⟨nl, es, clk⟩, ti, sq, dm, lo, il, ou⟩, er⟩ := z
  dsimp only at qR1 qR2 hci
  refine PCall.of_sound tok mixed fn6 (Nat.le_of_ble_eq_true rfl) ?_
  refine Sound.seq tok mixed ?_
  (conv => whnf); repeat' ((with_reducible refine Box.mk ?_) <;> conv => whnf)
  refine Sound.seq tok mixed ?_
  by_cases h0 : er = 0
  · have qR := qR2 h0
    have hc := hci h0
    unfold goodV hvR at qR
    dsimp only at qR
    cases nl
    · have qR : DCall P _ _ [.box 67 [.nilm]] _ [.box 67 [.nilm], .box 67 [.own 2], .map pk2 (ces es) clk] := qR
      (conv => whnf); (repeat' ((with_reducible first | refine Box.mk ?_ | refine And.intro (fun _ => ?_) (fun _ => ?_) | refine (forceH_eq _ _).mpr ?_ | fail) <;> conv => whnf))
      refine aW [] qC rfl rfl rfl ?_
      (conv => whnf); repeat' ((with_reducible refine Box.mk ?_) <;> conv => whnf)
      refine aW [0] qR rfl rfl rfl ?_
      (conv => whnf); repeat' ((with_reducible refine Box.mk ?_) <;> conv => whnf)
      refine Sound.seq tok mixed ?_
      (conv => whnf); (repeat' ((with_reducible first | refine Box.mk ?_ | refine And.intro (fun _ => ?_) (fun _ => ?_) | fail) <;> conv => whnf))
      all_goals try exact absurd rfl (by assumption)
      exact Sound.weak (weak_ren_to (l := [(1, .sl (bcl b)), (5, .ptr 0 0)]) [(1, true), (2, true)] rfl rfl rfl ⟨rfl, rfl, trivial⟩) (apRest ⟨false, es, clk⟩ hc b hb)
    · have qR : DCall P _ _ [.box 67 [.nilm]] _ [.box 67 [.nilm], .box 67 [.nilm]] := qR
      (conv => whnf); (repeat' ((with_reducible first | refine Box.mk ?_ | refine And.intro (fun _ => ?_) (fun _ => ?_) | refine (forceH_eq _ _).mpr ?_ | fail) <;> conv => whnf))
      refine aW [] qC rfl rfl rfl ?_
      (conv => whnf); repeat' ((with_reducible refine Box.mk ?_) <;> conv => whnf)
      refine aW [0] qR rfl rfl rfl ?_
      (conv => whnf); repeat' ((with_reducible refine Box.mk ?_) <;> conv => whnf)
      refine Sound.seq tok mixed ?_
      (conv => whnf); (repeat' ((with_reducible first | refine Box.mk ?_ | refine And.intro (fun _ => ?_) (fun _ => ?_) | fail) <;> conv => whnf))
      all_goals try exact absurd rfl (by assumption)
      exact Sound.weak (weak_ren_to (l := [(1, .sl (bcl b)), (5, .ptr 0 0)]) [(1, true)] rfl rfl rfl ⟨rfl, rfl, trivial⟩) (apRest ⟨true, es, clk⟩ hc b hb)
  · have qR := qR1 h0
    unfold badV hv0 at qR
    (conv => whnf); (repeat' ((with_reducible first | refine Box.mk ?_ | refine And.intro (fun _ => ?_) (fun _ => ?_) | refine (forceH_eq _ _).mpr ?_ | fail) <;> conv => whnf))
    refine aW [] qC rfl rfl rfl ?_
    (conv => whnf); repeat' ((with_reducible refine Box.mk ?_) <;> conv => whnf)
    refine aW [0] qR rfl rfl rfl ?_
    (conv => whnf); repeat' ((with_reducible refine Box.mk ?_) <;> conv => whnf)
    refine Sound.seq tok mixed ?_
    (conv => whnf); (repeat' ((with_reducible first | refine Box.mk ?_ | refine And.intro (fun _ => ?_) (fun _ => ?_) | fail) <;> conv => whnf))
    · exact absurd (by assumption) h0
    refine aW [] qC rfl rfl rfl ?_
    (conv => whnf); repeat' ((with_reducible refine Box.mk ?_) <;> conv => whnf)
    exact Sound.weak (weak_ren_to (l := [(1, .sl (bcl b)), (5, .ptr 0 0)]) [(2, true)] rfl rfl rfl ⟨rfl, rfl, trivial⟩) (apRest newS CI.new b hb)
end Go.Proofs.YtnajpmepcffnaaaGreatDoor
end

section
/- law17: arguments read as data. -/
namespace Go.Proofs.YtnajpmepcffnaaaGreatDoor
open Go.Ve

theorem bytes_inv17 {B : Nat} : ∀ (es : List (List AV)), (∀ c ∈ es, Wf ty B 5 c) → ∃ l : Bs, es = bcl l
  | [], _ => ⟨[], rfl⟩
  | c :: r, h => by
    obtain ⟨l, hl⟩ := bytes_inv17 r fun c hc => h c (List.mem_cons_of_mem _ hc)
    obtain ⟨n, rfl, hw⟩ := (h c List.mem_cons_self).int_inv (k := .u8) rfl
    have h2 : (0 : Int) ≤ n ∧ n ≤ 255 := by
      have := hw
      simp [Lit.wf] at this
      rw [show IntKind.u8.min = 0 from rfl, show IntKind.u8.max = 255 from rfl] at this
      exact this
    refine ⟨UInt8.ofNat n.toNat :: l, ?_⟩
    have e : ((UInt8.ofNat n.toNat).toNat : Int) = n := by
      show (((n.toNat % 256 : Nat)) : Int) = n
      omega
    rw [hl]
    show _ = [AV.int .u8 ((UInt8.ofNat n.toNat).toNat : Int)] :: bcl l
    rw [e]
theorem bs_inv17 {B : Nat} {x : AV} (h : WfV ty B 33 x) : ∃ l : Bs, mpA nlN x = .sl (bcl l) ∧ l.length ≤ B := by
  rcases h.slice_inv rfl with rfl | ⟨es, rfl, hl, he⟩
  · exact ⟨[], rfl, Nat.zero_le _⟩
  · obtain ⟨l, rfl⟩ := bytes_inv17 es he
    exact ⟨l, rfl, by rw [bcl_len] at hl; exact hl⟩
theorem IpfixApart_args (xs : List AV) (h : WfA ty 1048576 [33, 33] xs) : PCall P 6 xs (.bool true) := by
  obtain ⟨y1, r1, rfl, g1, h1⟩ := h.cons_inv
  obtain ⟨y2, r2, rfl, g2, h2⟩ := h1.cons_inv
  obtain rfl := h2.nil_inv
  obtain ⟨b, eb, hb⟩ := bs_inv17 g1
  obtain ⟨v, ev, hv⟩ := bs_inv17 g2
  refine PCall.nils ?_
  show PCall P _ [mpA nlN y1, mpA nlN y2] _
  rw [eb, ev]
  exact IpfixApart_run b v hb hv
end Go.Proofs.YtnajpmepcffnaaaGreatDoor
end
