/- The calls of package tree that are told by hand: put into no tree, Get, Check, Path. -/
import Derived.Test.YtdfddiehiiaepaaDoorPut0
import Derived.Test.YtdfddiehiiaepaaDoorTreeGP
