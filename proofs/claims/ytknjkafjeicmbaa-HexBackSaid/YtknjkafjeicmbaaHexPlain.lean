/- Bytes as text, two signs to a byte: plain functions; nothing of the program. -/
namespace Go.Proofs.Ytknjkafjeicmbaa.Hex

def dig (n : UInt8) : UInt8 := if n.toNat < 10 then 48 + n else 87 + n
def two (c : UInt8) : List UInt8 := [dig (c >>> 4), dig (c &&& 15)]
def print (l : List UInt8) : List UInt8 := l.flatMap two
theorem print_len (l : List UInt8) : (print l).length = 2 * l.length := by
  induction l with
  | nil => rfl
  | cons c l ih => show (two c ++ print l).length = _; rw [List.length_append, ih]; simp [two]; omega
theorem print_append (a b : List UInt8) : print (a ++ b) = print a ++ print b := by simp [print]
theorem print_take (l : List UInt8) (k : Nat) (h : k < l.length) : print (l.take (k + 1)) = print (l.take k) ++ two l[k] := by
  rw [List.take_succ_eq_append_getElem h, print_append]; simp [print]
end Go.Proofs.Ytknjkafjeicmbaa.Hex
